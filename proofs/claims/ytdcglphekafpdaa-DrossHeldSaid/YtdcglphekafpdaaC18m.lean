/- The statement DrossHeld holds: whatever the arguments, the law returns true and leaves its arguments as they were. -/
import Derived.Test.YtdcglphekafpdaaMt
import Derived.Test.YtdcglphekafpdaaMr
import Derived.Test.YtdcglphekafpdaaMk
import Derived.Lib.MinMax
namespace Go.Proofs.Ytdcglphekafpdaa
open Go.RowKit Go.Shelf
theorem rgs_some {w : World} {B n : Nat} {A : Option Addr} {l : List Rg} (h : RgS w B A n l) (hn : 0 < n) : ∃ b off, A = some ⟨b, off, none⟩ ∧ b < B := by
  obtain ⟨b, off, e, hb, _⟩ := h.2 hn
  exact ⟨b, off, e, hb⟩
theorem wAt_mem {l : List Int} {i : Nat} (h : i < l.length) : wAt l i ∈ l := by unfold wAt; rw [List.getElem?_eq_getElem h]; exact List.getElem_mem h
theorem wghL_bd {row : List Mt} (hok : row.all okM = true) {first : Int} (h0 : 0 ≤ first) (h1 : first ≤ 1000000) (by_ : List Int) : ∀ x ∈ wghL row first by_, 0 ≤ x ∧ x ≤ 1000000 := by
  intro x hx
  unfold wghL at hx
  obtain ⟨i, hi, rfl⟩ := List.mem_map.1 hx
  exact wgh_bd (M := mAt row) (n := row.length) (N := byN by_) (fun i hi => mAt_ok hok hi) h0 h1 i (by have := List.mem_range.1 hi; omega)
set_option maxRecDepth 100000 in
set_option maxHeartbeats 4000000 in
theorem held_main (w : World) (A A2 A3 : Option Addr) (n c n2 c2 n3 c3 : Nat) (row : List Mt) (by_ wide : List Int) (x1 x4 x5 : Int) (N1 i : Nat) (hr : MtS w w.heap.size A n row) (hb : SmS .u16 w w.heap.size A2 n2 by_) (hby : ∀ x ∈ by_, 0 ≤ x ∧ x ≤ 65535) (hn2 : n2 ≤ 20)
    (hw : SmS .u8 w w.heap.size A3 n3 wide) (hwd : ∀ x ∈ wide, 0 ≤ x ∧ x ≤ 255) (hn3 : n3 ≤ 20) (h0 : checkRow row = 0) (a0 : 0 ≤ x1 ∧ x1 ≤ 4294967295) (b0 : 0 ≤ x4 ∧ x4 ≤ 255) (d0 : 0 ≤ x5 ∧ x5 ≤ 65535) (hN1 : n + 1 = N1) (hi0 : x4 % (N1 : Int) = i) :
    Calls Try.prog 11 #[.slice A n c, .int .u32 x1, .slice A2 n2 c2, .slice A3 n3 c3, .int .u8 x4, .int .u16 x5] w fun e w' => e = .returned (.bool true) ∧ Below w.heap.size w w' := by
  obtain ⟨k4, k5, k6⟩ := checkRow_ok h0
  have hlen := hr.len
  have hn : n ≤ 12 := by omega
  have hN8 : N1 ≤ 8 := by omega
  have hN12 : N1 ≤ 12 := by omega
  have hN100 : N1 ≤ 100 := by omega
  have hNp : 0 < N1 := by omega
  have e2 := Int.emod_lt_of_pos x4 (b := (N1 : Int)) (by omega)
  have hin : i < N1 := by omega
  have m0 : 0 ≤ x1 % 1000001 := by omega
  have m1 : x1 % 1000001 ≤ 1000000 := by omega
  have z1 : x4.tmod (N1 : Int) = i := by rw [Int.tmod_eq_emod_of_nonneg b0.1]; exact hi0
  have z2 : ¬ ((N1 : Int) = 0) := by omega
  have n20 : ¬ ((20 : Int) < n2) := by omega
  have n30 : ¬ ((20 : Int) < n3) := by omega
  have hok := held_ok h0 m0 m1 by_ wide hwd
  have htr := held_truth h0 m0 m1 by_ wide hwd
  have htb := wghL_bd k6 m0 m1 by_
  have hT0 := wghL_len row (x1 % 1000001) by_
  obtain ⟨T, hT⟩ : ∃ T, wghL row (x1 % 1000001) by_ = T := ⟨_, rfl⟩
  rw [hT] at hok htr htb hT0
  obtain ⟨SC, hSC⟩ : ∃ S, arndL T wide = S := ⟨_, rfl⟩
  rw [hSC] at hok htr
  have hpos := (possB_iff hok).2 ⟨_, htr⟩
  have hte := truthE_zero hok hT0 htr
  have hter : truthErr row SC = 0 := by rw [truthErr_zero hok, hpos]; rfl
  have hbl : btwL row SC = btwAll row SC := by unfold btwL; rw [if_pos hter]
  have htt := btw_all hok hpos
  have hfix : ∀ v, (sAt SC i).lo ≤ v → v ≤ (sAt SC i).hi → checkScales row (SC.set i ⟨v, v⟩) = 0 ∧ possB row (SC.set i ⟨v, v⟩) = inR (sAt (btwAll row SC) i) v := fun v h1 h2 => fixed_law hok hpos (by omega) h1 h2
  have hnar := narrow_law hok htr (i := i) (by omega)
  have hbL := btwAll_len row SC
  have hIN : ∀ k, k < N1 → (sAt (btwAll row SC) k).lo ≤ wAt T k ∧ wAt T k ≤ (sAt (btwAll row SC) k).hi ∧ (sAt SC k).lo ≤ (sAt (btwAll row SC) k).lo ∧ (sAt (btwAll row SC) k).hi ≤ (sAt SC k).hi := fun k hk => tight_in htt htr (by omega)
  have hSB : ∀ k, 0 ≤ (sAt SC k).lo ∧ (sAt SC k).hi ≤ 1000000 := fun k => ⟨(okS_sAt (checkScales_ok hok).2.2 k).1, (okS_sAt (checkScales_ok hok).2.2 k).2.2.2⟩
  obtain ⟨L, hL⟩ : ∃ L, btwAll row SC = L := ⟨_, rfl⟩
  rw [hL] at hbl hfix hnar hbL hIN
  have hSn := (checkScales_ok hok).2.1
  obtain ⟨SC2, hSC2⟩ : ∃ S, SC.set i ⟨wAt T i, (sAt SC i).hi⟩ = S := ⟨_, rfl⟩
  rw [hSC2] at hnar
  obtain ⟨u1, u2, u3⟩ := hnar
  have hter2 : truthErr row SC2 = 0 := by rw [truthErr_zero u1, u2]; rfl
  have hbl2 : btwL row SC2 = btwAll row SC2 := by unfold btwL; rw [if_pos hter2]
  have hbL2 := btwAll_len row SC2
  obtain ⟨M2, hM2⟩ : ∃ L, btwAll row SC2 = L := ⟨_, rfl⟩
  rw [hM2] at hbl2 hbL2 u3
  have u3' : ∀ k, k < N1 → (sAt L k).lo ≤ (sAt M2 k).lo ∧ (sAt M2 k).hi ≤ (sAt L k).hi := fun k hk => u3 k (by omega)
  have HOK := hid hok
  have HTB := hid htb
  have HT := hid hT
  have HSCE := hid hSC
  have HTE := hid hte
  have HTER := hid hter
  have HBL := hid hbl
  have HFIX := hid hfix
  have HIN := hid hIN
  have HSB := hid hSB
  have HSC2 := hid hSC2
  have HTER2 := hid hter2
  have HBL2 := hid hbl2
  have HU3 := hid u3'
  have HLT : Hid (T.length = N1) := hid (by omega)
  have HLS : Hid (SC.length = N1) := hid (by omega)
  have HLL : Hid (L.length = N1) := hid (by omega)
  have HLM : Hid (M2.length = N1) := hid (by omega)
  have hby' := hid hby
  have hwd' := hid hwd
  have HR := hid (fun V (h : Below w.heap.size w V) => hr.below h h.size)
  have HB := hid (fun V (h : Below w.heap.size w V) => hb.below h h.size)
  have HW := hid (fun V (h : Below w.heap.size w V) => hw.below h h.size)
  have hd := hid (decide_eq_true h0)
  have H0 := hid h0
  have HN1 := hid hN1
  have hinI : (i : Int) < N1 := by omega
  have hini : (0 : Int) ≤ i := by omega
  clear hr hb hw hby hwd h0 k4 k5 k6 hlen e2 hok htr htb hT0 hT hSC hpos hte hter hbl htt hfix hbL hIN hSB hL hSn hSC2 u1 u2 u3 hter2 hbl2 hbL2 hM2 u3' hN1 hi0
  obtain ⟨i0, hi, hz0, hz1, hz2⟩ := info_parts info24
  go_enter Try.func11, Try.ntmps11
  have hbel : Below w.heap.size w w := Below.refl _ _
  have hsz := hbel.size
  go_wp2_with (fail)
  refine (fine_any _ _ n c row (HR.out _ ?_)).mono ?_
  · exact (by repeat' (first | with_reducible assumption | with_reducible exact Below.refl _ _ | refine Below.alloc ?_ ?_ _ | refine Below.setCell ?_ ?_ _ | refine Below.drew ?_ | refine below_drewN ?_ _ | (simp; done) | (simp; omega) | omega))
  rw [hd.out]
  rintro e V1 ⟨rfl, hb⟩
  have hst : Below w.heap.size w V1 := Below.trans (by repeat' (first | with_reducible assumption | with_reducible exact Below.refl _ _ | refine Below.alloc ?_ ?_ _ | refine Below.setCell ?_ ?_ _ | refine Below.drew ?_ | refine below_drewN ?_ _ | (simp; done) | (simp; omega) | omega)) (hb.mono (by first | (simp; done) | (simp; omega) | omega))
  replace hbel := hbel.trans (hst.mono hsz)
  replace hsz := hbel.size
  clear hb hst
  go_wp2_with (go_at_call 51; refine (chosen_any _ a0.1 a0.2 _).mono ?_; rintro e W1 ⟨rfl, rfl⟩)
  refine (weighed_any _ _ _ n c n2 c2 row (x1 % 1000001) by_ (HR.out _ ?_) H0.out m0 m1 (HB.out _ ?_) hby'.out hn2).mono ?_
  · exact (by repeat' (first | with_reducible assumption | with_reducible exact Below.refl _ _ | refine Below.alloc ?_ ?_ _ | refine Below.setCell ?_ ?_ _ | refine Below.drew ?_ | refine below_drewN ?_ _ | (simp; done) | (simp; omega) | omega))
  · exact (by repeat' (first | with_reducible assumption | with_reducible exact Below.refl _ _ | refine Below.alloc ?_ ?_ _ | refine Below.setCell ?_ ?_ _ | refine Below.drew ?_ | refine below_drewN ?_ _ | (simp; done) | (simp; omega) | omega))
  rintro e V2 ⟨B3, e3, rfl, hwl, hb⟩
  have hst : Below V1.heap.size V1 V2 := Below.trans (by repeat' (first | with_reducible assumption | with_reducible exact Below.refl _ _ | refine Below.alloc ?_ ?_ _ | refine Below.setCell ?_ ?_ _ | refine Below.drew ?_ | refine below_drewN ?_ _ | (simp; done) | (simp; omega) | omega)) (hb.mono (by first | (simp; done) | (simp; omega) | omega))
  replace hbel := hbel.trans (hst.mono hsz)
  replace hsz := hbel.size
  clear hb hst
  rw [HN1.out] at hwl ⊢
  rw [HT.out] at hwl
  obtain ⟨b3, o3, rfl, _⟩ := ins_some hwl hNp
  have HTS := hid hwl
  clear hwl
  go_wp2_with (fail)
  refine (around_any _ _ _ N1 e3 n3 c3 T wide (HTS.out.below (Below.refl _ _) (Nat.le_refl _)) hN8 HTB.out (HW.out _ ?_) hwd'.out hn3).mono ?_
  · exact (by repeat' (first | with_reducible assumption | with_reducible exact Below.refl _ _ | refine Below.alloc ?_ ?_ _ | refine Below.setCell ?_ ?_ _ | refine Below.drew ?_ | refine below_drewN ?_ _ | (simp; done) | (simp; omega) | omega))
  rintro e V3 ⟨B4, e4, rfl, he4, hrg, hb⟩
  have hst : Below V2.heap.size V2 V3 := Below.trans (by repeat' (first | with_reducible assumption | with_reducible exact Below.refl _ _ | refine Below.alloc ?_ ?_ _ | refine Below.setCell ?_ ?_ _ | refine Below.drew ?_ | refine below_drewN ?_ _ | (simp; done) | (simp; omega) | omega)) (hb.mono (by first | (simp; done) | (simp; omega) | omega))
  replace hbel := hbel.trans (hst.mono hsz)
  replace hsz := hbel.size
  replace HTS := hid (HTS.out.below hst hst.size)
  clear hb hst
  rw [HSCE.out] at hrg
  obtain ⟨b4, o4, rfl, _⟩ := rgs_some hrg hNp
  have HSS := hid hrg
  clear hrg
  go_wp2_with (fail)
  refine (dBetween_any _ _ _ n c N1 e4 row SC (HR.out _ ?_) hn (HSS.out.below (Below.refl _ _) (Nat.le_refl _)) hN12).mono ?_
  · exact (by repeat' (first | with_reducible assumption | with_reducible exact Below.refl _ _ | refine Below.alloc ?_ ?_ _ | refine Below.setCell ?_ ?_ _ | refine Below.drew ?_ | refine below_drewN ?_ _ | (simp; done) | (simp; omega) | omega))
  rintro e V4 ⟨B5, m5, e5, rfl, hrg, hb⟩
  have hst : Below V3.heap.size V3 V4 := Below.trans (by repeat' (first | with_reducible assumption | with_reducible exact Below.refl _ _ | refine Below.alloc ?_ ?_ _ | refine Below.setCell ?_ ?_ _ | refine Below.drew ?_ | refine below_drewN ?_ _ | (simp; done) | (simp; omega) | omega)) (hb.mono (by first | (simp; done) | (simp; omega) | omega))
  replace hbel := hbel.trans (hst.mono hsz)
  replace hsz := hbel.size
  replace HTS := hid (HTS.out.below hst hst.size)
  replace HSS := hid (HSS.out.below hst hst.size)
  clear hb hst
  rw [HTER.out]
  rw [HBL.out] at hrg
  have hm5 : m5 = N1 := hrg.len.symm.trans HLL.out
  subst m5
  obtain ⟨b5, o5, rfl, _⟩ := rgs_some hrg hNp
  have HLS5 := hid hrg
  clear hrg
  go_wp2_with (fail)
  refine (dCheckTruth_any _ _ _ _ n c N1 e4 N1 e3 row SC T (HR.out _ ?_) hn (HSS.out.below (Below.refl _ _) (Nat.le_refl _)) hN12 (HTS.out.below (Below.refl _ _) (Nat.le_refl _)) hN100).mono ?_
  · exact (by repeat' (first | with_reducible assumption | with_reducible exact Below.refl _ _ | refine Below.alloc ?_ ?_ _ | refine Below.setCell ?_ ?_ _ | refine Below.drew ?_ | refine below_drewN ?_ _ | (simp; done) | (simp; omega) | omega))
  rw [HTE.out]
  rintro e V5 ⟨rfl, hb⟩
  have hst : Below V4.heap.size V4 V5 := Below.trans (by repeat' (first | with_reducible assumption | with_reducible exact Below.refl _ _ | refine Below.alloc ?_ ?_ _ | refine Below.setCell ?_ ?_ _ | refine Below.drew ?_ | refine below_drewN ?_ _ | (simp; done) | (simp; omega) | omega)) (hb.mono (by first | (simp; done) | (simp; omega) | omega))
  replace hbel := hbel.trans (hst.mono hsz)
  replace hsz := hbel.size
  replace HTS := hid (HTS.out.below hst hst.size)
  replace HSS := hid (HSS.out.below hst hst.size)
  replace HLS5 := hid (HLS5.out.below hst hst.size)
  clear hb hst
  go_wp2_with (fail)
  go_loopw [17] (fun i wr => ∃ k : Nat, k ≤ N1 ∧ i = .int .i64 k ∧ Below V5.heap.size V5 wr) (fun i _ => N1 - (intOf i).toNat)
  case atStart => exact ⟨0, by omega, rfl, Below.refl _ _⟩
  case round =>
    obtain ⟨k, hk, rfl, hb⟩ := hrel
    have hrr : Hid (∀ U : World, Below wr.heap.size wr U → Below V5.heap.size V5 U) := hid (fun U h => hb.trans (h.mono hb.size))
    have hst : Below V5.heap.size V5 wr := Below.trans (by repeat' (first | with_reducible assumption | with_reducible exact Below.refl _ _ | refine Below.alloc ?_ ?_ _ | refine Below.setCell ?_ ?_ _ | refine Below.drew ?_ | refine below_drewN ?_ _ | (simp; done) | (simp; omega) | omega)) (hb.mono (by first | (simp; done) | (simp; omega) | omega))
    replace hbel := hbel.trans (hst.mono hsz)
    replace hsz := hbel.size
    replace HTS := hid (HTS.out.below hst hst.size)
    replace HSS := hid (HSS.out.below hst hst.size)
    replace HLS5 := hid (HLS5.out.below hst hst.size)
    clear hb hst
    by_cases hlt : k < N1
    · have hlti : (k : Int) < N1 := by omega
      obtain ⟨pb, po, r, pe, pl, pm, p0, p1⟩ := HLS5.out.at_ (k := k) (by omega)
      cases pe
      have pE := sAt_of pm
      clear pm
      obtain ⟨qb, qo, x, qe, ql, qm, q0⟩ := HTS.out.at_ (k := k) (by omega)
      cases qe
      have qE := wAt_of qm
      clear qm
      obtain ⟨sb, so, t, se, sl, sm, s0, s1⟩ := HSS.out.at_ (k := k) (by omega)
      cases se
      have sE := sAt_of sm
      clear sm
      have hI := HIN.out k hlt
      rw [pE, qE, sE] at hI
      have hir : Hid (inR r x = true) := hid (inR_t.2 ⟨hI.1, hI.2.1⟩)
      have d1 : decide (r.lo < t.lo) = false := decide_eq_false (by omega)
      have d2 : decide (t.hi < r.hi) = false := decide_eq_false (by omega)
      clear pE qE sE hI
      go_wp2_with (fail)
      refine wp_region_hd_all (fun W' => Below wr.heap.size wr W') (by kernel_rfl) (by kernel_rfl) ((Below.refl _ _).drew) ?_
      iterate 8 (refine wpHd_val (v := ?_) (by rfl) (fun W hW => ?_) ?_; rotate_left; (· obtain ⟨hcW, hfW⟩ := bcell hW; go_simp; with_reducible rfl); simp only [Act.put, List.setIfInBounds_toArray, List.set_cons_zero, List.set_cons_succ])
      (refine wpHd_callB (v := .bool true) (by rfl) (fun W hW => by have := in_any r x W; rw [hir.out] at this; exact this) (fun W hW => ?_) ?_; (· obtain ⟨hcW, hfW⟩ := bcell hW; go_simp); simp only [Act.put, List.setIfInBounds_toArray, List.set_cons_zero, List.set_cons_succ])
      iterate 27 (refine wpHd_val (v := ?_) (by rfl) (fun W hW => ?_) ?_; rotate_left; (· obtain ⟨hcW, hfW⟩ := bcell hW; go_simp; with_reducible rfl); simp only [Act.put, List.setIfInBounds_toArray, List.set_cons_zero, List.set_cons_succ])
      refine wpHd_nil ?_
      intro V7 hb
      go_wp2
      exact ⟨⟨k + 1, by omega, by go_num, hrr.out V7 hb⟩, by simp [intOf]; omega⟩
    · obtain hkn : k = N1 := by omega
      subst k
      clear hlt hrr
      obtain ⟨V67, hVV⟩ : ∃ V : World, V = wr := ⟨_, rfl⟩
      subst wr
      obtain ⟨pb, po, r, pe, pl, pm, p0, p1⟩ := HLS5.out.at_ (k := i) (by omega)
      cases pe
      have pE := sAt_of pm
      clear pm
      obtain ⟨sb, so, t, se, sl, sm, s0, s1⟩ := HSS.out.at_ (k := i) (by omega)
      cases se
      have sE := sAt_of sm
      clear sm
      have hI := HIN.out i hin
      rw [pE, sE] at hI
      have hS := HSB.out i
      rw [sE] at hS
      have hlt1 : t.lo ≤ r.lo := hI.2.2.1
      have hlt2 : r.hi ≤ t.hi := hI.2.2.2
      have hlr : r.lo ≤ r.hi := by omega
      have e1 := Int.emod_nonneg x5 (b := t.hi - t.lo + 1) (by omega)
      have e2 := Int.emod_lt_of_pos x5 (b := t.hi - t.lo + 1) (by omega)
      have y1 : IntKind.i64.wrap (t.hi - t.lo) = t.hi - t.lo := IntWalk.i64_in _ (by omega)
      have y2 : IntKind.i64.wrap (t.hi - t.lo + 1) = t.hi - t.lo + 1 := IntWalk.i64_in _ (by omega)
      have y3 : ¬ (t.hi - t.lo + 1 = 0) := by omega
      have y4 : x5.tmod (t.hi - t.lo + 1) = x5 % (t.hi - t.lo + 1) := Int.tmod_eq_emod_of_nonneg d0.1
      have y5 : IntKind.i64.wrap (x5 % (t.hi - t.lo + 1)) = x5 % (t.hi - t.lo + 1) := IntWalk.i64_in _ (by omega)
      have y8 : wrap64 (t.lo + x5 % (t.hi - t.lo + 1)) = t.lo + x5 % (t.hi - t.lo + 1) := by rw [← IntWalk.i64_left]; exact IntWalk.i64_in _ (by omega)
      obtain ⟨vv, hvv⟩ : ∃ vv, wrap64 (t.lo + x5 % (t.hi - t.lo + 1)) = vv := ⟨_, rfl⟩
      have hv1 : t.lo ≤ vv := by omega
      have hv2 : vv ≤ t.hi := by omega
      have HPE := hid pE
      have HSE := hid sE
      have HVV := hid hvv
      clear y8 hvv
      obtain ⟨hS1, hS2⟩ := hS
      clear hI pE sE
      go_wp2_with (fail)
      refine wp_region_hd 31 (fun W' => Below V67.heap.size V67 W') (by kernel_rfl) (by kernel_rfl) ((Below.refl _ _).drew) ?_
      simp only [List.take_succ_cons, List.take_zero, List.drop_succ_cons, List.drop_zero]
      iterate 31 (refine wpHd_val (v := ?_) (by rfl) (fun W hW => ?_) ?_; rotate_left; (· obtain ⟨hcW, hfW⟩ := bcell hW; go_simp; with_reducible rfl); simp only [Act.put, List.setIfInBounds_toArray, List.set_cons_zero, List.set_cons_succ])
      refine wpHd_nil ?_
      intro V68 hb
      have hst : Below V67.heap.size V67 V68 := Below.trans (by repeat' (first | with_reducible assumption | with_reducible exact Below.refl _ _ | refine Below.alloc ?_ ?_ _ | refine Below.setCell ?_ ?_ _ | refine Below.drew ?_ | refine below_drewN ?_ _ | (simp; done) | (simp; omega) | omega)) (hb.mono (by first | (simp; done) | (simp; omega) | omega))
      replace hbel := hbel.trans (hst.mono hsz)
      replace hsz := hbel.size
      replace HTS := hid (HTS.out.below hst hst.size)
      replace HSS := hid (HSS.out.below hst hst.size)
      replace HLS5 := hid (HLS5.out.below hst hst.size)
      clear hb hst y1 y2 y3 y4 y5 p0 p1 s0 s1 e1 e2
      go_wp2_with (fail)
      refine (longs_any _ _).mono ?_
      rintro e W1 ⟨rfl, rfl⟩
      go_wp2_with (fail)
      rw [HVV.out]
      obtain ⟨V69, hV⟩ : ∃ V : World, V = V68.alloc (.cells #[.int .i64 r.lo, .int .i64 r.hi, .int .i64 vv] 2) := ⟨_, rfl⟩
      have hb : Below V68.heap.size V68 V69 := by rw [hV]; exact (Below.refl _ _).alloc (Nat.le_refl _) _
      have BS : Hid (Blk V69 V68.heap.size 2 #[.int .i64 r.lo, .int .i64 r.hi, .int .i64 vv]) := hid (by rw [hV]; exact Blk.new _ _ _)
      rw [← hV]
      clear hV
      have hst : Below V68.heap.size V68 V69 := Below.trans (by repeat' (first | with_reducible assumption | with_reducible exact Below.refl _ _ | refine Below.alloc ?_ ?_ _ | refine Below.setCell ?_ ?_ _ | refine Below.drew ?_ | refine below_drewN ?_ _ | (simp; done) | (simp; omega) | omega)) (hb.mono (by first | (simp; done) | (simp; omega) | omega))
      replace hbel := hbel.trans (hst.mono hsz)
      replace hsz := hbel.size
      replace HTS := hid (HTS.out.below hst hst.size)
      replace HSS := hid (HSS.out.below hst hst.size)
      replace HLS5 := hid (HLS5.out.below hst hst.size)
      clear hb hst
      generalize V68.heap.size = gs at *
      go_loopw [20] (fun i wr => ∃ k : Nat, k ≤ 3 ∧ i = .int .i64 k ∧ Below V69.heap.size V69 wr) (fun i _ => 3 - (intOf i).toNat)
      case atStart => exact ⟨0, by omega, rfl, Below.refl _ _⟩
      case round =>
        obtain ⟨k, hk, rfl, hb⟩ := hrel
        have hrr : Hid (∀ U : World, Below wr.heap.size wr U → Below V69.heap.size V69 U) := hid (fun U h => hb.trans (h.mono hb.size))
        have hst : Below V69.heap.size V69 wr := Below.trans (by repeat' (first | with_reducible assumption | with_reducible exact Below.refl _ _ | refine Below.alloc ?_ ?_ _ | refine Below.setCell ?_ ?_ _ | refine Below.drew ?_ | refine below_drewN ?_ _ | (simp; done) | (simp; omega) | omega)) (hb.mono (by first | (simp; done) | (simp; omega) | omega))
        replace hbel := hbel.trans (hst.mono hsz)
        replace hsz := hbel.size
        replace BS := hid (BS.out.below hst BS.out.lt)
        replace HTS := hid (HTS.out.below hst hst.size)
        replace HSS := hid (HSS.out.below hst hst.size)
        replace HLS5 := hid (HLS5.out.below hst hst.size)
        clear hb hst
        by_cases hlt : k < 3
        · have hlti : (k : Int) < 3 := by omega
          have hsome : ∃ v : Int, wr.cell? ⟨gs, k, none⟩ = some (.int .i64 v) ∧ t.lo ≤ v ∧ v ≤ t.hi := by
            have hc := BS.out.cell k
            rcases (by omega : k = 0 ∨ k = 1 ∨ k = 2) with rfl | rfl | rfl
            · exact ⟨r.lo, hc, by omega, by omega⟩
            · exact ⟨r.hi, hc, by omega, by omega⟩
            · exact ⟨vv, hc, by omega, by omega⟩
          obtain ⟨v, hvc, hv3, hv4⟩ := hsome
          have hgs := BS.out.lt
          obtain ⟨f1, f2⟩ := HFIX.out v (by rw [HSE.out]; exact hv3) (by rw [HSE.out]; exact hv4)
          rw [HPE.out] at f2
          have F1 := hid f1
          have F2 := hid f2
          have HVC := hid hvc
          clear f1 f2 hvc
          go_wp2_with (fail)
          refine (ranges_any _ _).mono ?_
          rintro e W1 ⟨rfl, rfl⟩
          have HSX := hid HSS.out
          go_wp2_with (at_builtin; refine wpList_append_own _ rfl (.tmp 157) (.tmp 158) 34 rfl wr.heap.size 24 i0 _ 2 16 under34 hi hz0 hz1 hz2 rfl (by decide) _ 0 [] rfl (World.ownsRow_nil _ _ _ _) ⟨b4, o4, none⟩ N1 e4 (SC.flatMap cR) rfl (by rw [flat_len (s := 2) (fun _ => rfl), HLS.out]) (fun j u hj => by rw [add_at]; obtain ⟨b9, o9, e9, _, h9⟩ := HSX.out.2 (by omega); cases e9; exact h9 j u hj) (one_flat _) (by unfold maxLen; omega) (by omega) (Nat.le_refl _) ?_)
          intro v1 V71 own1 gr1 _
          try simp only [Nat.zero_add, List.nil_append] at own1
          have hX1 : Below wr.heap.size wr V71 := below_own (R := fun _ => True) (Below.refl _ _) (fun q hq => by simp [Value.ownBlock] at hq) gr1 (Nat.le_refl _)
          obtain ⟨g, cap, rfl, hg1, hg2⟩ := own_form2 own1 hNp
          clear gr1
          have hvc := (hX1.cell (p := ⟨gs, k, none⟩) hgs).trans HVC.out
          have hgs1 : gs < V71.heap.size := by have := hX1.size; omega
          go_wp2_with (fail)
          refine wp_region_hd 12 (fun W' => Below V71.heap.size V71 W') (by kernel_rfl) (by kernel_rfl) ((Below.refl _ _).drew) ?_
          simp only [List.take_succ_cons, List.take_zero, List.drop_succ_cons, List.drop_zero]
          iterate 10 (refine wpHd_val (v := ?_) (by rfl) (fun W hW => ?_) ?_; rotate_left; (· obtain ⟨hcW, hfW⟩ := bcell hW; go_simp; with_reducible rfl); simp only [Act.put, List.setIfInBounds_toArray, List.set_cons_zero, List.set_cons_succ])
          (refine wpHd_callB (by rfl) (fun W hW => to_any v v _) (fun W hW => ?_) ?_; (· obtain ⟨hcW, hfW⟩ := bcell hW; go_simp); simp only [Act.put, List.setIfInBounds_toArray, List.set_cons_zero, List.set_cons_succ])
          (refine wpHd_val (v := ?_) (by rfl) (fun W hW => ?_) ?_; rotate_left; (· obtain ⟨hcW, hfW⟩ := bcell hW; go_simp; with_reducible rfl); simp only [Act.put, List.setIfInBounds_toArray, List.set_cons_zero, List.set_cons_succ])
          refine wpHd_nil ?_
          intro V72 hV2
          clear hvc
          have own2 := owns_below own1 hV2
          obtain ⟨q0, q1, q2, q3⟩ := own_at own2 (k := i) (r := sAt SC i) (by unfold sAt; rw [List.getElem?_eq_getElem (by rw [HLS.out]; exact hin)]; rfl)
          have own4 := ((own2.stored (i * 2) (.int .i64 v)).1.stored (i * 2 + 1) (.int .i64 v)).1
          rw [set_flat (⟨v, v⟩ : Rg)] at own4
          have hb := ((hX1.trans (hV2.mono hX1.size)).setCell (p := ⟨g, i * 2, none⟩) hg1 (.int .i64 v)).setCell (p := ⟨g, i * 2 + 1, none⟩) hg1 (.int .i64 v)
          have gV2 : g < V72.heap.size := by have := hV2.size; omega
          go_wp2_with (fail)
          generalize (V72.setCell ⟨g, i * 2, none⟩ (.int .i64 v)).setCell ⟨g, i * 2 + 1, none⟩ (.int .i64 v) = V73 at *
          have hX3 := hid hb
          clear q0 q1 q2 q3 own2 own1 hV2 hX1 gV2
          have hst : Below wr.heap.size wr V73 := Below.trans (by repeat' (first | with_reducible assumption | with_reducible exact Below.refl _ _ | refine Below.alloc ?_ ?_ _ | refine Below.setCell ?_ ?_ _ | refine Below.drew ?_ | refine below_drewN ?_ _ | (simp; done) | (simp; omega) | omega)) (hb.mono (by first | (simp; done) | (simp; omega) | omega))
          replace hbel := hbel.trans (hst.mono hsz)
          replace hsz := hbel.size
          replace BS := hid (BS.out.below hst BS.out.lt)
          replace HTS := hid (HTS.out.below hst hst.size)
          replace HSS := hid (HSS.out.below hst hst.size)
          replace HLS5 := hid (HLS5.out.below hst hst.size)
          clear hb hst
          have HX := hid (by obtain ⟨A9, c9, e9, _, h9⟩ := rgs_of_own own4; cases e9; exact h9 : RgS V73 V73.heap.size (some ⟨g, 0, none⟩) N1 (SC.set i ⟨v, v⟩))
          clear own4
          refine (possible_any _ _ _ n c N1 cap row _ (HR.out _ ?_) (HX.out.below (Below.refl _ _) (Nat.le_refl _)) F1.out).mono ?_
          · exact (by repeat' (first | with_reducible assumption | with_reducible exact Below.refl _ _ | refine Below.alloc ?_ ?_ _ | refine Below.setCell ?_ ?_ _ | refine Below.drew ?_ | refine below_drewN ?_ _ | (simp; done) | (simp; omega) | omega))
          rw [F2.out]
          rintro e V74 ⟨rfl, hb⟩
          have hst : Below V73.heap.size V73 V74 := Below.trans (by repeat' (first | with_reducible assumption | with_reducible exact Below.refl _ _ | refine Below.alloc ?_ ?_ _ | refine Below.setCell ?_ ?_ _ | refine Below.drew ?_ | refine below_drewN ?_ _ | (simp; done) | (simp; omega) | omega)) (hb.mono (by first | (simp; done) | (simp; omega) | omega))
          replace hbel := hbel.trans (hst.mono hsz)
          replace hsz := hbel.size
          replace BS := hid (BS.out.below hst BS.out.lt)
          replace HTS := hid (HTS.out.below hst hst.size)
          replace HSS := hid (HSS.out.below hst hst.size)
          replace HLS5 := hid (HLS5.out.below hst hst.size)
          replace hX3 := hid (hX3.out.trans (hst.mono hX3.out.size))
          clear hb hst
          clear HX
          have hvc := (hX3.out.cell (p := ⟨gs, k, none⟩) hgs).trans HVC.out
          have hgs4 : gs < V74.heap.size := by have := hX3.out.size; omega
          obtain ⟨pb, po, r9, pe, pl, pm, p0, p1⟩ := HLS5.out.at_ (k := i) (by omega)
          cases pe
          have pE := sAt_of pm
          clear pm
          have er : r9 = r := pE.symm.trans HPE.out
          subst er
          clear pE
          go_wp2_with (fail)
          refine wp_region_hd_all (fun W' => Below V74.heap.size V74 W') (by kernel_rfl) (by kernel_rfl) ((Below.refl _ _).drew) ?_
          iterate 12 (refine wpHd_val (v := ?_) (by rfl) (fun W hW => ?_) ?_; rotate_left; (· obtain ⟨hcW, hfW⟩ := bcell hW; go_simp; with_reducible rfl); simp only [Act.put, List.setIfInBounds_toArray, List.set_cons_zero, List.set_cons_succ])
          (refine wpHd_callB (by rfl) (fun W hW => in_any r9 v _) (fun W hW => ?_) ?_; (· obtain ⟨hcW, hfW⟩ := bcell hW; go_simp); simp only [Act.put, List.setIfInBounds_toArray, List.set_cons_zero, List.set_cons_succ])
          iterate 2 (refine wpHd_val (v := ?_) (by rfl) (fun W hW => ?_) ?_; rotate_left; (· obtain ⟨hcW, hfW⟩ := bcell hW; go_simp; with_reducible rfl); simp only [Act.put, List.setIfInBounds_toArray, List.set_cons_zero, List.set_cons_succ])
          refine wpHd_nil ?_
          intro V75 hb
          have hXe := hX3.out.trans (hb.mono hX3.out.size)
          clear hvc p0 p1
          go_wp2
          exact ⟨⟨k + 1, by omega, by go_num, hrr.out V75 hXe⟩, by simp [intOf]; omega⟩
        · obtain hkn : k = 3 := by omega
          subst k
          clear hlt hrr
          obtain ⟨V131, hVV⟩ : ∃ V : World, V = wr := ⟨_, rfl⟩
          subst wr
          obtain ⟨qb, qo, x, qe, ql, qm, q0⟩ := HTS.out.at_ (k := i) (by omega)
          cases qe
          have qE := wAt_of qm
          clear qm
          obtain ⟨sb, so, t9, se, sl, sm, s0, s1⟩ := HSS.out.at_ (k := i) (by omega)
          cases se
          have sE := sAt_of sm
          clear sm
          have et : t9 = t := sE.symm.trans HSE.out
          subst et
          have HQE := hid qE
          clear qE sE s0 s1
          go_wp2_with (fail)
          refine (ranges_any _ _).mono ?_
          rintro e W1 ⟨rfl, rfl⟩
          have HSX := hid HSS.out
          go_wp2_with (at_builtin; refine wpList_append_own _ rfl (.tmp 193) (.tmp 194) 34 rfl V131.heap.size 24 i0 _ 2 16 under34 hi hz0 hz1 hz2 rfl (by decide) _ 0 [] rfl (World.ownsRow_nil _ _ _ _) ⟨b4, o4, none⟩ N1 e4 (SC.flatMap cR) rfl (by rw [flat_len (s := 2) (fun _ => rfl), HLS.out]) (fun j u hj => by rw [add_at]; obtain ⟨b9, o9, e9, _, h9⟩ := HSX.out.2 (by omega); cases e9; exact h9 j u hj) (one_flat _) (by unfold maxLen; omega) (by omega) (Nat.le_refl _) ?_)
          intro v1 V132 own1 gr1 _
          try simp only [Nat.zero_add, List.nil_append] at own1
          have hX1 : Below V131.heap.size V131 V132 := below_own (R := fun _ => True) (Below.refl _ _) (fun q hq => by simp [Value.ownBlock] at hq) gr1 (Nat.le_refl _)
          obtain ⟨g, cap, rfl, hg1, hg2⟩ := own_form2 own1 hNp
          clear gr1
          have qc := (hX1.cell (p := ⟨_, _, none⟩) ql).trans q0
          have ql1 : b3 < V132.heap.size := by have := hX1.size; omega
          clear q0
          obtain ⟨q4, q5, _, _⟩ := own_at own1 (k := i) (r := sAt SC i) (by unfold sAt; rw [List.getElem?_eq_getElem (by rw [HLS.out]; exact hin)]; rfl)
          rw [HSE.out] at q4 q5
          go_wp2_with (fail)
          refine wp_region_hd 13 (fun W' => Below V132.heap.size V132 W') (by kernel_rfl) (by kernel_rfl) ((Below.refl _ _).drew) ?_
          simp only [List.take_succ_cons, List.take_zero, List.drop_succ_cons, List.drop_zero]
          iterate 11 (refine wpHd_val (v := ?_) (by rfl) (fun W hW => ?_) ?_; rotate_left; (· obtain ⟨hcW, hfW⟩ := bcell hW; go_simp; with_reducible rfl); simp only [Act.put, List.setIfInBounds_toArray, List.set_cons_zero, List.set_cons_succ])
          (refine wpHd_callB (by rfl) (fun W hW => to_any x t9.hi _) (fun W hW => ?_) ?_; (· obtain ⟨hcW, hfW⟩ := bcell hW; go_simp); simp only [Act.put, List.setIfInBounds_toArray, List.set_cons_zero, List.set_cons_succ])
          (refine wpHd_val (v := ?_) (by rfl) (fun W hW => ?_) ?_; rotate_left; (· obtain ⟨hcW, hfW⟩ := bcell hW; go_simp; with_reducible rfl); simp only [Act.put, List.setIfInBounds_toArray, List.set_cons_zero, List.set_cons_succ])
          refine wpHd_nil ?_
          intro V133 hV2
          clear qc q4 q5
          have own2 := owns_below own1 hV2
          obtain ⟨q0, q1, q2, q3⟩ := own_at own2 (k := i) (r := sAt SC i) (by unfold sAt; rw [List.getElem?_eq_getElem (by rw [HLS.out]; exact hin)]; rfl)
          have own4 := ((own2.stored (i * 2) (.int .i64 x)).1.stored (i * 2 + 1) (.int .i64 t9.hi)).1
          rw [set_flat (⟨x, t9.hi⟩ : Rg)] at own4
          have hb := ((hX1.trans (hV2.mono hX1.size)).setCell (p := ⟨g, i * 2, none⟩) hg1 (.int .i64 x)).setCell (p := ⟨g, i * 2 + 1, none⟩) hg1 (.int .i64 t9.hi)
          have gV2 : g < V133.heap.size := by have := hV2.size; omega
          go_wp2_with (fail)
          generalize (V133.setCell ⟨g, i * 2, none⟩ (.int .i64 x)).setCell ⟨g, i * 2 + 1, none⟩ (.int .i64 t9.hi) = V134 at *
          have hX3 := hid hb
          clear q0 q1 q2 q3 own2 own1 hV2 hX1 gV2
          have hst : Below V131.heap.size V131 V134 := Below.trans (by repeat' (first | with_reducible assumption | with_reducible exact Below.refl _ _ | refine Below.alloc ?_ ?_ _ | refine Below.setCell ?_ ?_ _ | refine Below.drew ?_ | refine below_drewN ?_ _ | (simp; done) | (simp; omega) | omega)) (hb.mono (by first | (simp; done) | (simp; omega) | omega))
          replace hbel := hbel.trans (hst.mono hsz)
          replace hsz := hbel.size
          replace BS := hid (BS.out.below hst BS.out.lt)
          replace HTS := hid (HTS.out.below hst hst.size)
          replace HSS := hid (HSS.out.below hst hst.size)
          replace HLS5 := hid (HLS5.out.below hst hst.size)
          clear hb hst
          have hsc2 : SC.set i ⟨x, t9.hi⟩ = SC2 := by rw [← HSC2.out, HQE.out, HSE.out]
          rw [hsc2] at own4
          have HX := hid (by obtain ⟨A9, c9, e9, _, h9⟩ := rgs_of_own own4; cases e9; exact h9 : RgS V134 V134.heap.size (some ⟨g, 0, none⟩) N1 SC2)
          clear own4 hsc2
          refine (dBetween_any _ _ _ n c N1 cap row SC2 (HR.out _ ?_) hn (HX.out.below (Below.refl _ _) (Nat.le_refl _)) hN12).mono ?_
          · exact (by repeat' (first | with_reducible assumption | with_reducible exact Below.refl _ _ | refine Below.alloc ?_ ?_ _ | refine Below.setCell ?_ ?_ _ | refine Below.drew ?_ | refine below_drewN ?_ _ | (simp; done) | (simp; omega) | omega))
          rintro e V135 ⟨B6, m6, e6, rfl, hrg, hb⟩
          have hst : Below V134.heap.size V134 V135 := Below.trans (by repeat' (first | with_reducible assumption | with_reducible exact Below.refl _ _ | refine Below.alloc ?_ ?_ _ | refine Below.setCell ?_ ?_ _ | refine Below.drew ?_ | refine below_drewN ?_ _ | (simp; done) | (simp; omega) | omega)) (hb.mono (by first | (simp; done) | (simp; omega) | omega))
          replace hbel := hbel.trans (hst.mono hsz)
          replace hsz := hbel.size
          replace BS := hid (BS.out.below hst BS.out.lt)
          replace HTS := hid (HTS.out.below hst hst.size)
          replace HSS := hid (HSS.out.below hst hst.size)
          replace HLS5 := hid (HLS5.out.below hst hst.size)
          clear hb hst
          rw [HTER2.out]
          rw [HBL2.out] at hrg
          have hm6 : m6 = N1 := hrg.len.symm.trans HLM.out
          subst m6
          obtain ⟨b6, o6, rfl, _⟩ := rgs_some hrg hNp
          have HLS6 := hid hrg
          clear hrg HX
          go_wp2_with (fail)
          go_loopw [26] (fun i wr => ∃ k : Nat, k ≤ N1 ∧ i = .int .i64 k ∧ Below V135.heap.size V135 wr) (fun i _ => N1 - (intOf i).toNat)
          case atStart => exact ⟨0, by omega, rfl, Below.refl _ _⟩
          case round =>
            obtain ⟨k, hk, rfl, hb⟩ := hrel
            have hrr : Hid (∀ U : World, Below wr.heap.size wr U → Below V135.heap.size V135 U) := hid (fun U h => hb.trans (h.mono hb.size))
            have hst : Below V135.heap.size V135 wr := Below.trans (by repeat' (first | with_reducible assumption | with_reducible exact Below.refl _ _ | refine Below.alloc ?_ ?_ _ | refine Below.setCell ?_ ?_ _ | refine Below.drew ?_ | refine below_drewN ?_ _ | (simp; done) | (simp; omega) | omega)) (hb.mono (by first | (simp; done) | (simp; omega) | omega))
            replace hbel := hbel.trans (hst.mono hsz)
            replace hsz := hbel.size
            replace BS := hid (BS.out.below hst BS.out.lt)
            replace HTS := hid (HTS.out.below hst hst.size)
            replace HSS := hid (HSS.out.below hst hst.size)
            replace HLS5 := hid (HLS5.out.below hst hst.size)
            replace HLS6 := hid (HLS6.out.below hst hst.size)
            clear hb hst
            by_cases hlt : k < N1
            · have hlti : (k : Int) < N1 := by omega
              obtain ⟨pb, po, r1, pe, pl, pm, p0, p1⟩ := HLS6.out.at_ (k := k) (by omega)
              cases pe
              have pE := sAt_of pm
              clear pm
              obtain ⟨sb, so, r2, se, sl, sm, s0, s1⟩ := HLS5.out.at_ (k := k) (by omega)
              cases se
              have sE := sAt_of sm
              clear sm
              have hI := HU3.out k hlt
              rw [pE, sE] at hI
              have d1 : decide (r1.lo < r2.lo) = false := decide_eq_false (by omega)
              have d2 : decide (r2.hi < r1.hi) = false := decide_eq_false (by omega)
              clear pE sE hI
              go_wp2_with (fail)
              refine wp_region_hd_all (fun W' => Below wr.heap.size wr W') (by kernel_rfl) (by kernel_rfl) ((Below.refl _ _).drew) ?_
              iterate 24 (refine wpHd_val (v := ?_) (by rfl) (fun W hW => ?_) ?_; rotate_left; (· obtain ⟨hcW, hfW⟩ := bcell hW; go_simp; with_reducible rfl); simp only [Act.put, List.setIfInBounds_toArray, List.set_cons_zero, List.set_cons_succ])
              refine wpHd_nil ?_
              intro V137 hb
              go_wp2
              exact ⟨⟨k + 1, by omega, by go_num, hrr.out V137 hb⟩, by simp [intOf]; omega⟩
            · obtain hkn : k = N1 := by omega
              subst k
              clear hlt hrr
              obtain ⟨V197, hVV⟩ : ∃ V : World, V = wr := ⟨_, rfl⟩
              subst wr
              go_wp2_with (fail)
              refine (works_any _).mono ?_
              rintro e V198 ⟨rfl, hb⟩
              have hst : Below V197.heap.size V197 V198 := Below.trans (by repeat' (first | with_reducible assumption | with_reducible exact Below.refl _ _ | refine Below.alloc ?_ ?_ _ | refine Below.setCell ?_ ?_ _ | refine Below.drew ?_ | refine below_drewN ?_ _ | (simp; done) | (simp; omega) | omega)) (hb.mono (by first | (simp; done) | (simp; omega) | omega))
              replace hbel := hbel.trans (hst.mono hsz)
              replace hsz := hbel.size
              replace BS := hid (BS.out.below hst BS.out.lt)
              replace HTS := hid (HTS.out.below hst hst.size)
              replace HSS := hid (HSS.out.below hst hst.size)
              replace HLS5 := hid (HLS5.out.below hst hst.size)
              replace HLS6 := hid (HLS6.out.below hst hst.size)
              clear hb hst
              go_wp2
              go_ret
              exact ⟨rfl, hbel⟩
set_option maxRecDepth 100000 in
set_option maxHeartbeats 4000000 in
theorem held_walk (w : World) (A A2 A3 : Option Addr) (n c n2 c2 n3 c3 : Nat) (row : List Mt) (by_ wide : List Int) (x1 x4 x5 : Int) (hr : MtS w w.heap.size A n row) (hb : SmS .u16 w w.heap.size A2 n2 by_) (hby : ∀ x ∈ by_, 0 ≤ x ∧ x ≤ 65535)
    (hw : SmS .u8 w w.heap.size A3 n3 wide) (hwd : ∀ x ∈ wide, 0 ≤ x ∧ x ≤ 255) (a0 : 0 ≤ x1 ∧ x1 ≤ 4294967295) (b0 : 0 ≤ x4 ∧ x4 ≤ 255) (d0 : 0 ≤ x5 ∧ x5 ≤ 65535) :
    Calls Try.prog 11 #[.slice A n c, .int .u32 x1, .slice A2 n2 c2, .slice A3 n3 c3, .int .u8 x4, .int .u16 x5] w fun e w' => e = .returned (.bool true) ∧ Below w.heap.size w w' := by
  have HR := hid (fun V (h : Below w.heap.size w V) => hr.below h h.size)
  by_cases h0 : checkRow row = 0
  · by_cases hn2 : n2 ≤ 20
    · by_cases hn3 : n3 ≤ 20
      · have e1 := Int.emod_nonneg x4 (b := ((n + 1 : Nat) : Int)) (by omega)
        exact held_main w A A2 A3 n c n2 c2 n3 c3 row by_ wide x1 x4 x5 (n + 1) (x4 % ((n + 1 : Nat) : Int)).toNat hr hb hby hn2 hw hwd hn3 h0 a0 b0 d0 rfl (by omega)
      · have hd := hid (decide_eq_true h0)
        have h20 : ¬ ((20 : Int) < n2) := by omega
        have h30 : (20 : Int) < n3 := by omega
        clear hr hb hby hw hwd h0
        go_enter Try.func11, Try.ntmps11
        go_wp2_with (first | (go_at_call 52; refine (fine_any _ A n c row (HR.out _ ?_)).mono ?_; (· exact (by repeat' (first | with_reducible assumption | with_reducible exact Below.refl _ _ | refine Below.alloc ?_ ?_ _ | refine Below.setCell ?_ ?_ _ | refine Below.drew ?_ | refine below_drewN ?_ _ | (simp; done) | (simp; omega) | omega))); rw [hd.out]; rintro e W1 ⟨rfl, hb⟩; have hbel : Below w.heap.size w W1 := Below.trans (by repeat' (first | with_reducible assumption | with_reducible exact Below.refl _ _ | refine Below.alloc ?_ ?_ _ | refine Below.setCell ?_ ?_ _ | refine Below.drew ?_ | refine below_drewN ?_ _ | (simp; done) | (simp; omega) | omega)) (hb.mono (by first | (simp; done) | (simp; omega) | omega))) | (go_at_call 19; refine (works_any _).mono ?_; rintro e W2 ⟨rfl, hb2⟩))
        go_ret
        exact ⟨rfl, Below.trans (by repeat' (first | with_reducible assumption | with_reducible exact Below.refl _ _ | refine Below.alloc ?_ ?_ _ | refine Below.setCell ?_ ?_ _ | refine Below.drew ?_ | refine below_drewN ?_ _ | (simp; done) | (simp; omega) | omega)) (hb2.mono hbel.size)⟩
    · have hd := hid (decide_eq_true h0)
      have h20 : (20 : Int) < n2 := by omega
      clear hr hb hby hw hwd h0
      go_enter Try.func11, Try.ntmps11
      go_wp2_with (first | (go_at_call 52; refine (fine_any _ A n c row (HR.out _ ?_)).mono ?_; (· exact (by repeat' (first | with_reducible assumption | with_reducible exact Below.refl _ _ | refine Below.alloc ?_ ?_ _ | refine Below.setCell ?_ ?_ _ | refine Below.drew ?_ | refine below_drewN ?_ _ | (simp; done) | (simp; omega) | omega))); rw [hd.out]; rintro e W1 ⟨rfl, hb⟩; have hbel : Below w.heap.size w W1 := Below.trans (by repeat' (first | with_reducible assumption | with_reducible exact Below.refl _ _ | refine Below.alloc ?_ ?_ _ | refine Below.setCell ?_ ?_ _ | refine Below.drew ?_ | refine below_drewN ?_ _ | (simp; done) | (simp; omega) | omega)) (hb.mono (by first | (simp; done) | (simp; omega) | omega))) | (go_at_call 19; refine (works_any _).mono ?_; rintro e W2 ⟨rfl, hb2⟩))
      go_ret
      exact ⟨rfl, Below.trans (by repeat' (first | with_reducible assumption | with_reducible exact Below.refl _ _ | refine Below.alloc ?_ ?_ _ | refine Below.setCell ?_ ?_ _ | refine Below.drew ?_ | refine below_drewN ?_ _ | (simp; done) | (simp; omega) | omega)) (hb2.mono hbel.size)⟩
  · have hd := hid (decide_eq_false h0)
    clear hr hb hby hw hwd h0
    go_enter Try.func11, Try.ntmps11
    go_wp2_with (first | (go_at_call 52; refine (fine_any _ A n c row (HR.out _ ?_)).mono ?_; (· exact (by repeat' (first | with_reducible assumption | with_reducible exact Below.refl _ _ | refine Below.alloc ?_ ?_ _ | refine Below.setCell ?_ ?_ _ | refine Below.drew ?_ | refine below_drewN ?_ _ | (simp; done) | (simp; omega) | omega))); rw [hd.out]; rintro e W1 ⟨rfl, hb⟩; have hbel : Below w.heap.size w W1 := Below.trans (by repeat' (first | with_reducible assumption | with_reducible exact Below.refl _ _ | refine Below.alloc ?_ ?_ _ | refine Below.setCell ?_ ?_ _ | refine Below.drew ?_ | refine below_drewN ?_ _ | (simp; done) | (simp; omega) | omega)) (hb.mono (by first | (simp; done) | (simp; omega) | omega))) | (go_at_call 19; refine (works_any _).mono ?_; rintro e W2 ⟨rfl, hb2⟩))
    go_ret
    exact ⟨rfl, Below.trans (by repeat' (first | with_reducible assumption | with_reducible exact Below.refl _ _ | refine Below.alloc ?_ ?_ _ | refine Below.setCell ?_ ?_ _ | refine Below.drew ?_ | refine below_drewN ?_ _ | (simp; done) | (simp; omega) | omega)) (hb2.mono hbel.size)⟩

section
open Go.ChangeShapes Go.WideShapes Go.ChangeAt Go.RowKit
set_option maxRecDepth 100000 in
theorem drossHeld_lifted (os : Os) (started : os.Started) (H : Type) (enc : TypeId × Value → H) :
    ReturnsInHanded {} Try.checked os 11 .any (Rows.drossHeldSpec.pre6 enc Try.prog Try.f11 Rows.drossHeldRow.domain false) (Rows.drossHeldSpec.post enc Try.prog Try.f11 false true false false) := by
  refine returnsInHanded_of_change (C := Try.checked) ownKx started (by kernel_rfl) Try.func11
    (ChangeSpec.witness6 (enc := enc) (C := Try.checked) false ⟨#[], #[.slice none 0 0, .int .u32 0, .slice none 0 0, .slice none 0 0, .int .u8 0, .int .u16 0], []⟩ 8 (by kernel_rfl) (by kernel_rfl) (by kernel_rfl) (by kernel_rfl)) ?_
  intro W base args ds gs before hval0 hW hcnd _
  have hval : ∀ (j : Nat) t v, Try.f11.params[j]? = some t → args[j]? = some v → Value.okWide Try.prog W .any base t v := hval0
  have hW' := hW
  obtain ⟨p, q, hA0, hV, rfl, hfz, hnd⟩ := hW
  have hA : DataW.TrodAll enc Try.prog W 0 (fun _ => true) true Try.f11.params.toList args.toList ds p := hA0
  have hlt : ∀ x ∈ p, x.block < W.heap.size := fun x hx => hW'.lt x (List.mem_append_left _ hx)
  have hAll : ∀ W', Below W.heap.size W W' → DataW.TrodAll enc Try.prog W' 0 (fun b => decide (b < W.heap.size)) true Try.f11.params.toList args.toList ds p := fun W' hb => all_below laidOut hb (readable_of (by kernel_rfl)) hlt hA
  rw [Try.params11] at hA hval
  obtain ⟨v0, v1, v2, v3, v4, v5, d0, d1, d2, d3, d4, d5, p0, p1, p2, p3, p4, p5, rfl, rfl, rfl, h0, h1, h2, h3, h4, h5⟩ := trodAll_six hA
  obtain ⟨rfl, rfl⟩ := trodVars_none hV
  clear hA0 hval0
  obtain ⟨A0, n0, c0, rfl⟩ := okWide_slice Try.underlying22 (hval 0 22 v0 rfl rfl)
  obtain ⟨hc0, l0, hl0, hr0⟩ := open_mts h0
  obtain ⟨x1, rfl, rfl, rfl, wx1⟩ := open_int Try.underlying55 (hval 1 55 v1 rfl rfl) h1
  obtain ⟨A2, n2, c2, rfl⟩ := okWide_slice Try.underlying56 (hval 2 56 v2 rfl rfl)
  obtain ⟨hc2, l2, hl2, hr2⟩ := open_is Try.underlying56 Try.underlying73 (by kernel_rfl) h2
  obtain ⟨A3, n3, c3, rfl⟩ := okWide_slice Try.underlying72 (hval 3 72 v3 rfl rfl)
  obtain ⟨hc3, l3, hl3, hr3⟩ := open_is Try.underlying72 Try.underlying5 (by kernel_rfl) h3
  obtain ⟨x4, rfl, rfl, rfl, wx4⟩ := open_int Try.underlying5 (hval 4 5 v4 rfl rfl) h4
  obtain ⟨x5, rfl, rfl, rfl, wx5⟩ := open_int Try.underlying73 (hval 5 73 v5 rfl rfl) h5
  refine (held_walk W A0 A2 A3 n0 c0 n2 c2 n3 c3 l0 (l2.map (·.1)) (l3.map (·.1)) x1 x4 x5 hr0 (sm_of hr2) sm16_bd (sm_of hr3) sm8_bd (u32_bdx wx1) (u8_bdx wx4) (u16_bdx wx5)).mono fun e W' ⟨he, hb⟩ => ?_
  subst he
  exact ⟨_, rfl, ⟨_, _, _, [], _, [], hW', trodAll_cons_mk (shut_bool Try.underlying4 _) trodAll_mk0, hAll W' hb, rfl, hb.frame _, fun h => by cases h⟩⟩
/-- The law: whatever the input, it returns true, and the input reads as it did. -/
theorem drossHeld_holds : Rows.DrossHeldSaid :=
  OpenClaim.holds_of_wide 11 Try.f11 rfl rfl rfl rfl rfl rfl rfl ⟨rfl, rfl, rfl, rfl, rfl⟩ rfl rfl rfl rfl rfl (by kernel_rfl) Try.func11 (by kernel_rfl)
    (of_decide_eq_true (by kernel_rfl)) (by unfold Func.isWrapper; first | (rw [if_pos (by decide +kernel)]; kernel_rfl) | (rw [if_neg (by decide +kernel)]; exact ⟨rfl, rfl⟩))
    (fun os started H enc _ => drossHeld_lifted os started H enc)
end
end Go.Proofs.Ytdcglphekafpdaa
