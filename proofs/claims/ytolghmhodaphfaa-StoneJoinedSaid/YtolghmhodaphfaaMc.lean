/- Texts of the proof, laid together by program. -/
import Derived.Test.YtolghmhodaphfaaMb
import Derived.Test.YtolghmhodaphfaaMa
/- Walks: a lay is checked, the program's way. -/
namespace Go.Proofs.Ytolghmhodaphfaa
open Go.RowKit
def inK (p : Int) (q : Kd × Int) : Bool := inR (leastK p q.1) q.1.many q.2
def layB (p : Int) (ks : List Kd) (l : List Int) : Bool := (ks.zip l).all (inK p)
def layErr (ks : List Kd) (p : Int) (l : List Int) : Int := if openE ks p ≠ 0 then openE ks p else if l.length ≠ ks.length then 15 else if layB p ks l = false then 3 else 0
theorem layErr_open {ks : List Kd} {p : Int} {l : List Int} (h : openE ks p ≠ 0) : layErr ks p l = openE ks p := by unfold layErr; rw [if_pos h]
theorem layErr_len {ks : List Kd} {p : Int} {l : List Int} (h : openE ks p = 0) (h2 : l.length ≠ ks.length) : layErr ks p l = 15 := by unfold layErr; rw [if_neg (by simp [h]), if_pos h2]
theorem layErr_far {ks : List Kd} {p : Int} {l : List Int} (h : openE ks p = 0) (h2 : l.length = ks.length) (h3 : layB p ks l = false) : layErr ks p l = 3 := by unfold layErr; rw [if_neg (by simp [h]), if_neg (by simp [h2]), if_pos h3]
theorem layErr_ok {ks : List Kd} {p : Int} {l : List Int} (h : openE ks p = 0) (h2 : l.length = ks.length) (h3 : layB p ks l = true) : layErr ks p l = 0 := by unfold layErr; rw [if_neg (by simp [h]), if_neg (by simp [h2]), if_neg (by simp [h3])]
theorem zip_at {ks : List Kd} {l : List Int} {k : Nat} {m : Kd} {x : Int} (h : ks[k]? = some m) (h' : l[k]? = some x) : (ks.zip l)[k]? = some (m, x) := by rw [List.getElem?_zip_eq_some]; exact ⟨h, h'⟩
theorem openE_oks {ks : List Kd} {p : Int} (h : openE ks p = 0) : (∀ k ∈ ks, okK k = true) ∧ (p = 1 ∨ p = 2) := by
  obtain ⟨h1, h2⟩ := openE_zero h
  exact ⟨List.all_eq_true.1 (checkSet_ok h1).2.2.1, h2⟩
theorem layB_abs {p : Int} {ks : List Kd} {l : List Int} (hp : p = 1 ∨ p = 2) (hk : ∀ k ∈ ks, okK k = true) (hl : l.length = ks.length) (h : layB p ks l = true) : ∀ x ∈ l, absI x ≤ 300 := by
  intro x hx
  obtain ⟨k, hk1, rfl⟩ := List.mem_iff_getElem.1 hx
  have h1 : l[k]? = some l[k] := List.getElem?_eq_getElem hk1
  have hk2 : k < ks.length := by omega
  have h2 : ks[k]? = some ks[k] := List.getElem?_eq_getElem hk2
  have h3 := List.all_eq_true.1 h _ (List.mem_of_getElem? (zip_at h2 h1))
  have h4 := okK_le (hk _ (List.getElem_mem hk2))
  unfold inK at h3
  rw [inR_t] at h3
  have h5 : leastK p ks[k] = 0 ∨ leastK p ks[k] = -ks[k].many := by rcases hp with h | h; exact .inl (leastK_one h); exact .inr (leastK_two h)
  simp only at h3
  unfold absI
  omega
def layR (ks : List Kd) (p : Int) (l : List Int) : Value := if layErr ks p l = 0 then .tuple #[.int .i64 (weighs ks l), .int .i64 (uses l), .int .i64 0] else .tuple #[.int .i64 0, .int .i64 0, .int .i64 (layErr ks p l)]
set_option maxRecDepth 100000 in
set_option maxHeartbeats 2000000 in
theorem checkLay_any (w : World) (A A' : Option Addr) (n c n' c' : Nat) (ks : List Kd) (l : List Int) (p : Int) (hk : KdS w w.heap.size A n ks) (hl : InS w w.heap.size A' n' l) (hn : n ≤ 12) :
    Calls Try.prog 20 #[.slice A n c, .int .i64 p, .slice A' n' c'] w fun e w' => e = .returned (layR ks p l) ∧ Below w.heap.size w w' := by
  have hlen := hid hl.len
  have hlenk := hid hk.len
  by_cases h0 : openE ks p = 0
  · have H0 := hid h0
    have HL := hid hl
    have HK := hid hk
    by_cases hnn : n' = n
    · subst hnn
      have hoks := hid (openE_oks h0)
      have hp2 := hid hoks.out.2
      clear hl h0
      have hdn : ((n' : Int) != n') = false := by simp
      go_enter Try.func20, Try.ntmps20
      go_wp2_with (first | (go_at_call 64; refine (open_ok _ A n' c ks p hk hn H0.out).mono ?_; rintro e w1 ⟨g, rfl, hg1, hg2, hsc, hb1⟩; have hz1 := hb1.size; have sc0 := hsc.1; have sc1 := hsc.2))
      have HSC := hid hsc
      clear sc0 sc1 hsc hk
      go_loopw [37] (fun i wr => ∃ k : Nat, k ≤ n' ∧ i = .int .i64 k ∧ Hid (((ks.zip l).take k).all (inK p) = true) ∧ Below w1.heap.size w1 wr) (fun i _ => n' - (intOf i).toNat)
      case atStart => exact ⟨0, by omega, rfl, rfl, Below.refl _ _⟩
      case round =>
        obtain ⟨k, hk, rfl, hall, hbel⟩ := hrel
        have hsz := hbel.size
        have hbw := hb1.trans (hbel.mono hz1)
        have hszw := hbw.size
        by_cases hlt : k < n'
        · have KS := HK.out.below hbw hszw
          have Hks := hid KS
          obtain ⟨b, off, m, rfl, hb, hm, c0, c1⟩ := KS.at_ hlt
          obtain ⟨b', off', x, rfl, hb', hm', d0⟩ := (HL.out.below hbw hszw).at_ hlt
          have hlti : (k : Int) < n' := by omega
          have Hm := hid hm
          have Hz := hid (zip_at hm hm')
          have Hx : Hid ([x].all (inR (leastK p m) m.many) = inK p (m, x)) := hid all_one
          have hokm := hid (hoks.out.1 m (List.mem_of_getElem? hm))
          clear hm hm' KS
          cases hv : inK p (m, x)
          all_goals
            have Hv := hid hv
            clear hv
            go_wp2_with (fail)
            refine wp_region_el [0, 1, 2, 3, 4, 5, 6, 7, 8] 3 (by kernel_rfl) (by kernel_rfl) (fun Y hY => ?_)
            have hYX : Below wr.heap.size wr Y := by rw [hY]; exact (Below.refl _ _).drew
            clear hY
            obtain ⟨hcY, hfY⟩ := bcell hYX
            replace c1 := (hcY _ _ hb).trans c1
            have hsY := hYX.size
            have l1 : b < Y.heap.size := by omega
            clear hcY hfY c0 d0
            simp only [pick, List.getElem?_toArray, List.getElem?_cons_zero, List.getElem?_cons_succ]
            iterate 2 (refine wpE_val (v := ?_) (by rfl) (fun W hW => ?_) ?_; rotate_left; (· obtain ⟨hcW, hfW⟩ := bcell hW; go_simp; with_reducible rfl); simp only [Act.put, List.setIfInBounds_toArray, List.set_cons_zero, List.set_cons_succ])
            (refine wpE_call (by rfl) (fun W hW => least_any W _ n' c k ks p m ((Hks.out.below hYX hsY).below hW hW.size) Hm.out hokm.out hp2.out) (fun W hW => ?_) ?_; (· obtain ⟨hcW, hfW⟩ := bcell hW; go_simp); simp only [Act.put, List.setIfInBounds_toArray, List.set_cons_zero, List.set_cons_succ])
            iterate 6 (refine wpE_val (v := ?_) (by rfl) (fun W hW => ?_) ?_; rotate_left; (· obtain ⟨hcW, hfW⟩ := bcell hW; go_simp; with_reducible rfl); simp only [Act.put, List.setIfInBounds_toArray, List.set_cons_zero, List.set_cons_succ])
            simp only [wpE]
            (refine wpM_one 9 _ (by simp only [List.getElem?_toArray, List.getElem?_cons_zero, List.getElem?_cons_succ]; rfl) (by kernel_rfl) (by rfl) ?_)
            intro X1 hX1 hX1'
            (go_simp; simp only [LUpon, Act.put]; try simp only [List.setIfInBounds_toArray, List.set_cons_zero, List.set_cons_succ])
            refine ⟨hX1'.alloc hX1'.size _, ?_⟩
            have b9 : Blk (X1.alloc (.cells #[.int .i64 x] 2)) X1.heap.size 2 #[.int .i64 x] := Blk.new _ _ _
            have hB9 : Y.heap.size ≤ X1.heap.size := hX1'.size
            generalize X1.heap.size = B9 at *
            generalize X1.alloc (.cells #[.int .i64 x] 2) = X1b at *
            (refine wpM_one 10 _ (by simp only [List.getElem?_toArray, List.getElem?_cons_zero, List.getElem?_cons_succ]; rfl) (by kernel_rfl) (by rfl) ?_)
            intro X2 hX2 hX2'
            replace b9 := b9.below hX2 b9.lt
            (go_simp; simp only [LUpon, Act.put]; try simp only [List.setIfInBounds_toArray, List.set_cons_zero, List.set_cons_succ])
            refine (within_any _ _ _ [x] (leastK p m) m.many _ (ins_blk (l := [x]) b9 b9.lt) (by simp)).mono ?_
            rw [Hx.out, Hv.out]
            rintro e X3 ⟨rfl, hb3⟩
            refine ⟨_, rfl, hX2'.trans' hb3, ?_⟩
            (refine wpM_one 11 _ (by simp only [List.getElem?_toArray, List.getElem?_cons_zero, List.getElem?_cons_succ]; rfl) (by kernel_rfl) (by rfl) ?_)
            intro X4 hX4 hX4'
            (go_simp; simp only [LUpon, Act.put]; try simp only [List.setIfInBounds_toArray, List.set_cons_zero, List.set_cons_succ])
            refine ⟨hX4', ?_⟩
            refine wpM_end (by kernel_rfl) ?_
            intro X5 hX5 hX5'
            have hX : Below wr.heap.size wr X5 := hYX.trans (hX5'.mono hsY)
            clear hX5 hX5' hX4 hX4' hb3 hX2 hX2' hX1 hX1' b9 hYX c1
          · have hfin : Hid (layErr ks p l = 3) := hid (layErr_far H0.out (by rw [hlen.out, hlenk.out]) (all_false Hz.out Hv.out))
            go_wp2
            refine bodyPost_ret (v := .tuple #[.int .i64 0, .int .i64 0, .int .i64 3]) (by first | (simp [results, Try.results20, go_sem]; done) | (simp [results, Try.results20, go_sem, *]; done) | (simp [results, Try.results20, go_sem, World.cell?_setCell_same', *]; done) | (simp [results, Try.results20, go_sem]; first | exact ⟨rfl, rfl⟩ | rfl)) rfl ⟨by unfold layR; rw [hfin.out]; rfl, hbw.trans (hX.mono hszw)⟩
          · go_wp2
            exact ⟨⟨k + 1, by omega, by go_num, all_take_succ hall.out Hz.out Hv.out, hbel.trans (hX.mono hsz)⟩, by simp [intOf]; omega⟩
        · obtain rfl : k = n' := by omega
          have hzl : Hid ((ks.zip l).take k = ks.zip l) := hid (List.take_of_length_le (by rw [List.length_zip, hlen.out, hlenk.out]; omega))
          have hb : layB p ks l = true := by have := hall.out; rwa [hzl.out] at this
          have hfin : Hid (layErr ks p l = 0) := hid (layErr_ok H0.out (by rw [hlen.out, hlenk.out]) hb)
          have habs := hid (layB_abs hp2.out hoks.out.1 (by rw [hlen.out, hlenk.out]) hb)
          have hsc := HSC.out.below hbel hg2
          have sc0 := hsc.1
          have sc1 := hsc.2
          clear hsc hb
          go_wp2_with (first | (go_at_call 67; refine (weighs_any _ A A' k c c' ks l p (HK.out.below hbw hszw) (HL.out.below hbw hszw) (by omega) hoks.out.1 habs.out).mono ?_; rintro e w2 ⟨rfl, hb2⟩; have hz2 := hb2.size; have hbw2 := hbw.trans (hb2.mono hszw); have hszw2 := hbw2.size) | (go_at_call 68; refine (uses_any _ A' k c' l (HL.out.below hbw2 hszw2) (by omega) habs.out).mono ?_; rintro e w3 ⟨rfl, hb3⟩))
          refine bodyPost_ret (v := .tuple #[.int .i64 (weighs ks l), .int .i64 (uses l), .int .i64 0]) (by first | (simp [results, Try.results20, go_sem]; done) | (simp [results, Try.results20, go_sem, *]; done) | (simp [results, Try.results20, go_sem, World.cell?_setCell_same', *]; done) | (simp [results, Try.results20, go_sem]; first | exact ⟨rfl, rfl⟩ | rfl)) rfl ⟨by unfold layR; rw [hfin.out]; rfl, hbw2.trans (hb3.mono hszw2)⟩
    · have hfin : Hid (layErr ks p l = 15) := hid (layErr_len h0 (by rw [hlen.out, hlenk.out]; exact hnn))
      have hdn : ((n' : Int) != n) = true := by simp; omega
      clear hl h0
      go_enter Try.func20, Try.ntmps20
      go_wp2_with (first | (go_at_call 64; refine (open_ok _ A n c ks p hk hn H0.out).mono ?_; rintro e w1 ⟨g, rfl, hg1, hg2, hsc, hb1⟩; have hz1 := hb1.size))
      refine bodyPost_ret (v := .tuple #[.int .i64 0, .int .i64 0, .int .i64 15]) (by first | (simp [results, Try.results20, go_sem]; done) | (simp [results, Try.results20, go_sem, *]; done) | (simp [results, Try.results20, go_sem, World.cell?_setCell_same', *]; done) | (simp [results, Try.results20, go_sem]; first | exact ⟨rfl, rfl⟩ | rfl)) rfl ⟨by unfold layR; rw [hfin.out]; rfl, hb1⟩
  · have hfin : Hid (layErr ks p l = openE ks p) := hid (layErr_open h0)
    have hd : (openE ks p != 0) = true := by simpa using h0
    have H0 := hid h0
    clear hl h0
    go_enter Try.func20, Try.ntmps20
    go_wp2_with (first | (go_at_call 64; refine (open_bad _ A n c ks p hk hn H0.out).mono ?_; rintro e w1 ⟨rfl, hb1⟩; have hz1 := hb1.size))
    refine bodyPost_ret (v := .tuple #[.int .i64 0, .int .i64 0, .int .i64 (openE ks p)]) (by first | (simp [results, Try.results20, go_sem]; done) | (simp [results, Try.results20, go_sem, *]; done) | (simp [results, Try.results20, go_sem, World.cell?_setCell_same', *]; done) | (simp [results, Try.results20, go_sem]; first | exact ⟨rfl, rfl⟩ | rfl)) rfl ⟨by unfold layR; rw [if_neg (by rw [hfin.out]; exact H0.out), hfin.out], hb1⟩
end Go.Proofs.Ytolghmhodaphfaa
/- Walks: a lay is checked, the reference's way. -/
namespace Go.Proofs.Ytolghmhodaphfaa
open Go.RowKit
set_option maxRecDepth 100000 in
set_option maxHeartbeats 2000000 in
theorem refCheckLay_any (w : World) (A A' : Option Addr) (n c n' c' : Nat) (ks : List Kd) (l : List Int) (p : Int) (hk : KdS w w.heap.size A n ks) (hl : InS w w.heap.size A' n' l) (hn : n ≤ 12) :
    Calls Try.prog 21 #[.slice A n c, .int .i64 p, .slice A' n' c'] w fun e w' => e = .returned (layR ks p l) ∧ Below w.heap.size w w' := by
  have hlen := hid hl.len
  have hlenk := hid hk.len
  have HL := hid hl
  have HK := hid hk
  by_cases h0 : openE ks p = 0
  · have H0 := hid h0
    by_cases hnn : n' = n
    · subst hnn
      have hoks := hid (openE_oks h0)
      have hp2 := hid hoks.out.2
      clear hl h0
      have hdn : ((n' : Int) != n') = false := by simp
      go_enter Try.func21, Try.ntmps21
      go_wp2_with (first | (go_at_call 69; refine (panned_any _ A n' c ks p hk hn).mono ?_; rw [H0.out]; rintro e w1 ⟨rfl, hb1⟩; have hz1 := hb1.size))
      clear hk
      go_loopw [9] (fun i wr => ∃ k : Nat, k ≤ n' ∧ i = .int .i64 k ∧ Hid (((ks.zip l).take k).all (inK p) = true) ∧ Below w.heap.size w wr) (fun i _ => n' - (intOf i).toNat)
      case atStart => exact ⟨0, by omega, rfl, rfl, hb1⟩
      case round =>
        obtain ⟨k, hk, rfl, hall, hbw⟩ := hrel
        have hszw := hbw.size
        by_cases hlt : k < n'
        · obtain ⟨b, off, m, rfl, hb, hm, c0, c1⟩ := (HK.out.below hbw hszw).at_ hlt
          obtain ⟨b', off', x, rfl, hb', hm', d0⟩ := (HL.out.below hbw hszw).at_ hlt
          have hlti : (k : Int) < n' := by omega
          have Hz := hid (zip_at hm hm')
          have hokm := hid (hoks.out.1 m (List.mem_of_getElem? hm))
          clear hm hm'
          cases hx1 : decide (x < leastK p m)
          · cases hx2 : decide (m.many < x)
            · have Hv : Hid (inK p (m, x) = true) := hid (inR_t.2 ⟨by have := of_decide_eq_false hx1; simpa using this, by have := of_decide_eq_false hx2; simpa using this⟩)
              go_wp2_with (fail)
              refine wp_region_hd_all (fun W' => Below wr.heap.size wr W') (by kernel_rfl) (by kernel_rfl) ((Below.refl _ _).drew) ?_
              iterate 9 (refine wpHd_val (v := ?_) (by rfl) (fun W hW => ?_) ?_; rotate_left; (· obtain ⟨hcW, hfW⟩ := bcell hW; go_simp; with_reducible rfl); simp only [Act.put, List.setIfInBounds_toArray, List.set_cons_zero, List.set_cons_succ])
              (refine wpHd_callB (by rfl) (fun W hW => refLeast_any W m p hokm.out hp2.out) (fun W hW => ?_) ?_; (· obtain ⟨hcW, hfW⟩ := bcell hW; go_simp); simp only [Act.put, List.setIfInBounds_toArray, List.set_cons_zero, List.set_cons_succ])
              iterate 13 (refine wpHd_val (v := ?_) (by rfl) (fun W hW => ?_) ?_; rotate_left; (· obtain ⟨hcW, hfW⟩ := bcell hW; go_simp; with_reducible rfl); simp only [Act.put, List.setIfInBounds_toArray, List.set_cons_zero, List.set_cons_succ])
              refine wpHd_nil ?_
              intro W2 hW2
              clear hx1 hx2 c0 c1 d0
              go_wp2
              exact ⟨⟨k + 1, by omega, by go_num, all_take_succ hall.out Hz.out Hv.out, hbw.trans (hW2.mono hszw)⟩, by simp [intOf]; omega⟩
            · have Hv : Hid (inK p (m, x) = false) := hid (inR_f.2 (.inr (of_decide_eq_true hx2)))
              have hfin : Hid (layErr ks p l = 3) := hid (layErr_far H0.out (by rw [hlen.out, hlenk.out]) (all_false Hz.out Hv.out))
              go_wp2_with (fail)
              refine wp_region_hd_all (fun W' => Below wr.heap.size wr W') (by kernel_rfl) (by kernel_rfl) ((Below.refl _ _).drew) ?_
              iterate 9 (refine wpHd_val (v := ?_) (by rfl) (fun W hW => ?_) ?_; rotate_left; (· obtain ⟨hcW, hfW⟩ := bcell hW; go_simp; with_reducible rfl); simp only [Act.put, List.setIfInBounds_toArray, List.set_cons_zero, List.set_cons_succ])
              (refine wpHd_callB (by rfl) (fun W hW => refLeast_any W m p hokm.out hp2.out) (fun W hW => ?_) ?_; (· obtain ⟨hcW, hfW⟩ := bcell hW; go_simp); simp only [Act.put, List.setIfInBounds_toArray, List.set_cons_zero, List.set_cons_succ])
              iterate 13 (refine wpHd_val (v := ?_) (by rfl) (fun W hW => ?_) ?_; rotate_left; (· obtain ⟨hcW, hfW⟩ := bcell hW; go_simp; with_reducible rfl); simp only [Act.put, List.setIfInBounds_toArray, List.set_cons_zero, List.set_cons_succ])
              refine wpHd_nil ?_
              intro W2 hW2
              clear hx1 hx2 c0 c1 d0
              go_wp2
              refine bodyPost_ret (v := .tuple #[.int .i64 0, .int .i64 0, .int .i64 3]) (by first | (simp [results, Try.results21, go_sem]; done) | (simp [results, Try.results21, go_sem, *]; done) | (simp [results, Try.results21, go_sem, World.cell?_setCell_same', *]; done) | (simp [results, Try.results21, go_sem]; first | exact ⟨rfl, rfl⟩ | rfl)) rfl ⟨by unfold layR; rw [hfin.out]; rfl, hbw.trans (hW2.mono hszw)⟩
          · have Hv : Hid (inK p (m, x) = false) := hid (inR_f.2 (.inl (of_decide_eq_true hx1)))
            have hfin : Hid (layErr ks p l = 3) := hid (layErr_far H0.out (by rw [hlen.out, hlenk.out]) (all_false Hz.out Hv.out))
            go_wp2_with (fail)
            refine wp_region_hd_all (fun W' => Below wr.heap.size wr W') (by kernel_rfl) (by kernel_rfl) ((Below.refl _ _).drew) ?_
            iterate 9 (refine wpHd_val (v := ?_) (by rfl) (fun W hW => ?_) ?_; rotate_left; (· obtain ⟨hcW, hfW⟩ := bcell hW; go_simp; with_reducible rfl); simp only [Act.put, List.setIfInBounds_toArray, List.set_cons_zero, List.set_cons_succ])
            (refine wpHd_callB (by rfl) (fun W hW => refLeast_any W m p hokm.out hp2.out) (fun W hW => ?_) ?_; (· obtain ⟨hcW, hfW⟩ := bcell hW; go_simp); simp only [Act.put, List.setIfInBounds_toArray, List.set_cons_zero, List.set_cons_succ])
            iterate 2 (refine wpHd_val (v := ?_) (by rfl) (fun W hW => ?_) ?_; rotate_left; (· obtain ⟨hcW, hfW⟩ := bcell hW; go_simp; with_reducible rfl); simp only [Act.put, List.setIfInBounds_toArray, List.set_cons_zero, List.set_cons_succ])
            iterate 10 (refine wpHd_not (by rfl) ?_; simp only [Act.put, List.setIfInBounds_toArray, List.set_cons_zero, List.set_cons_succ])
            iterate 1 (refine wpHd_val (v := ?_) (by rfl) (fun W hW => ?_) ?_; rotate_left; (· obtain ⟨hcW, hfW⟩ := bcell hW; go_simp; with_reducible rfl); simp only [Act.put, List.setIfInBounds_toArray, List.set_cons_zero, List.set_cons_succ])
            refine wpHd_nil ?_
            intro W2 hW2
            clear hx1 c0 c1 d0
            go_wp2
            refine bodyPost_ret (v := .tuple #[.int .i64 0, .int .i64 0, .int .i64 3]) (by first | (simp [results, Try.results21, go_sem]; done) | (simp [results, Try.results21, go_sem, *]; done) | (simp [results, Try.results21, go_sem, World.cell?_setCell_same', *]; done) | (simp [results, Try.results21, go_sem]; first | exact ⟨rfl, rfl⟩ | rfl)) rfl ⟨by unfold layR; rw [hfin.out]; rfl, hbw.trans (hW2.mono hszw)⟩
        · obtain rfl : k = n' := by omega
          have hzl : Hid ((ks.zip l).take k = ks.zip l) := hid (List.take_of_length_le (by rw [List.length_zip, hlen.out, hlenk.out]; omega))
          have hb : layB p ks l = true := by have := hall.out; rwa [hzl.out] at this
          have hfin : Hid (layErr ks p l = 0) := hid (layErr_ok H0.out (by rw [hlen.out, hlenk.out]) hb)
          have habs := hid (layB_abs hp2.out hoks.out.1 (by rw [hlen.out, hlenk.out]) hb)
          clear hb
          go_wp2_with (first | (go_at_call 71; refine (refUsed_any _ A A' k c c' ks l (HK.out.below hbw hszw) (HL.out.below hbw hszw) (by omega) hoks.out.1 habs.out).mono ?_; rintro e w2 ⟨rfl, hb2⟩))
          refine bodyPost_ret (v := .tuple #[.int .i64 (weighs ks l), .int .i64 (uses l), .int .i64 0]) (by first | (simp [results, Try.results21, go_sem]; done) | (simp [results, Try.results21, go_sem, *]; done) | (simp [results, Try.results21, go_sem, World.cell?_setCell_same', *]; done) | (simp [results, Try.results21, go_sem]; first | exact ⟨rfl, rfl⟩ | rfl)) rfl ⟨by unfold layR; rw [hfin.out]; rfl, hbw.trans (hb2.mono hszw)⟩
    · have hfin : Hid (layErr ks p l = 15) := hid (layErr_len h0 (by rw [hlen.out, hlenk.out]; exact hnn))
      have hdn : ((n' : Int) != n) = true := by simp; omega
      clear hl h0
      go_enter Try.func21, Try.ntmps21
      go_wp2_with (first | (go_at_call 69; refine (panned_any _ A n c ks p hk hn).mono ?_; rw [H0.out]; rintro e w1 ⟨rfl, hb1⟩; have hz1 := hb1.size))
      refine bodyPost_ret (v := .tuple #[.int .i64 0, .int .i64 0, .int .i64 15]) (by first | (simp [results, Try.results21, go_sem]; done) | (simp [results, Try.results21, go_sem, *]; done) | (simp [results, Try.results21, go_sem, World.cell?_setCell_same', *]; done) | (simp [results, Try.results21, go_sem]; first | exact ⟨rfl, rfl⟩ | rfl)) rfl ⟨by unfold layR; rw [hfin.out]; rfl, hb1⟩
  · have hfin : Hid (layErr ks p l = openE ks p) := hid (layErr_open h0)
    have hd : (openE ks p != 0) = true := by simpa using h0
    have H0 := hid h0
    clear hl h0
    go_enter Try.func21, Try.ntmps21
    go_wp2_with (first | (go_at_call 69; refine (panned_any _ A n c ks p hk hn).mono ?_; rintro e w1 ⟨rfl, hb1⟩; have hz1 := hb1.size) | (go_at_call 69; refine (panned_any _ A n c ks p (hk.below hb1 hz1) hn).mono ?_; rintro e w2 ⟨rfl, hb2⟩))
    refine bodyPost_ret (v := .tuple #[.int .i64 0, .int .i64 0, .int .i64 (openE ks p)]) (by first | (simp [results, Try.results21, go_sem]; done) | (simp [results, Try.results21, go_sem, *]; done) | (simp [results, Try.results21, go_sem, World.cell?_setCell_same', *]; done) | (simp [results, Try.results21, go_sem]; first | exact ⟨rfl, rfl⟩ | rfl)) rfl ⟨by unfold layR; rw [if_neg (by rw [hfin.out]; exact H0.out), hfin.out], hb1.trans (hb2.mono hz1)⟩
end Go.Proofs.Ytolghmhodaphfaa
/- Walks: the numbers that a kind can have in a lay, yielded. -/
namespace Go.Proofs.Ytolghmhodaphfaa
open Go.RowKit
attribute [local go_sem] Oper.semAt_some
/-- A number of a lay. -/
def Nb : Type := {x : Int // -300 ≤ x ∧ x ≤ 300}
def encN (x : Nb) : Array Value := #[.int .i64 x.1]
/-- The j-th number of a kind. -/
def numAt (p : Int) (m : Kd) (j : Nat) : Nb := ⟨max (-300) (min 300 (leastK p m + j)), by omega⟩
/-- How many numbers a kind can have. -/
def numsN (p : Int) (m : Kd) : Nat := (m.many - leastK p m + 1).toNat
theorem numsN_le {p : Int} {m : Kd} (hp : p = 1 ∨ p = 2) (hok : okK m = true) : -300 ≤ leastK p m ∧ leastK p m ≤ 0 ∧ (numsN p m : Int) = m.many - leastK p m + 1 ∧ numsN p m ≤ 601 := by
  have h4 := okK_le hok
  have h5 : leastK p m = 0 ∨ leastK p m = -m.many := by rcases hp with h | h; exact .inl (leastK_one h); exact .inr (leastK_two h)
  unfold numsN
  omega
theorem numAt_v {p : Int} {m : Kd} {j : Nat} (hp : p = 1 ∨ p = 2) (hok : okK m = true) (h : j < numsN p m) : (numAt p m j).1 = leastK p m + j := by
  have h1 := numsN_le hp hok
  have h4 := okK_le hok
  show max (-300) (min 300 (leastK p m + j)) = leastK p m + j
  omega
set_option maxHeartbeats 400000 in
theorem numbers_any (A : Option Addr) (n c : Nat) (p i : Int) (w : World) :
    Calls Try.prog 94 #[.agg #[.slice A n c, .int .i64 p], .int .i64 i] w fun e w' => e = .returned (.func (.func 98) #[] #[.pointer (some ⟨w.heap.size, 0, none⟩), .pointer (some ⟨w.heap.size + 1, 0, none⟩)]) ∧ (w.alloc (.cells #[.slice A n c, .int .i64 p] 76)).alloc (.cells #[.int .i64 i] 3) = w' := by
  go_enter Try.func94, Try.ntmps94
  go_wp2
  go_ret
  exact ⟨by first | rfl | simp, by first | rfl | simp⟩
set_option maxRecDepth 100000 in
set_option maxHeartbeats 2000000 in
theorem nums1_in (d l Bs Bi n₀ : Nat) (G : Nat → Prop) (A : Option Addr) (n c i : Nat) (ks : List Kd) (p : Int) (m : Kd) (hm : ks[i]? = some m) (hok : okK m = true) (hp : p = 1 ∨ p = 2) (hBs : Bs < n₀) (hG : ¬ G Bs) (hBi : Bi < n₀) (hGi : ¬ G Bi) (hGr : ∀ b off, A = some ⟨b, off, none⟩ → ¬ G b) (J Jx : List Nb → World → Prop)
    (hY : ∀ pre x W, J pre W → pre.length < numsN p m → YieldAt (Wd none) (d - 1) Try.prog l (encN x) W fun e W' =>
      (e = .returned (.bool true) ∧ J (pre ++ [x]) W' ∧ KpG n₀ G W W') ∨ (e = .returned (.bool false) ∧ Jx (pre ++ [x]) W'))
    (W : World) (hW0 : n₀ ≤ W.heap.size) (hB : W.cell? ⟨Bs, 0, none⟩ = some (.slice A n c)) (hB1 : W.cell? ⟨Bs, 1, none⟩ = some (.int .i64 p)) (hI : W.cell? ⟨Bi, 0, none⟩ = some (.int .i64 i)) (hr : KdS W n₀ A n ks) (h0 : ∀ W', Below W.heap.size W W' → J [] W') :
    CallsIn (Wd none) d Try.prog 98 #[.func (.yield l) #[] #[], .pointer (some ⟨Bs, 0, none⟩), .pointer (some ⟨Bi, 0, none⟩)] W fun e W' => (∃ v, e = .returned v) ∧
      ((∃ ys, ys = upto (numAt p m) (numsN p m) ∧ J ys W') ∨ (∃ pre, (∃ k, k ≤ numsN p m ∧ pre = upto (numAt p m) k) ∧ Jx pre W')) := by
  have HY := hid hY
  have hin : i < n := by
    have := hr.len
    have := (List.getElem?_eq_some_iff.1 hm).1
    omega
  have hini : (i : Int) < n := by omega
  have HR := hid (Sl.more hr hW0)
  have Hm := hid hm
  have Hp := hid hp
  have Hok := hid hok
  obtain ⟨b, off, m', rfl, hb, hm', c0, c1⟩ := hr.at_ hin
  obtain rfl : m' = m := by rw [hm] at hm'; simpa using hm'.symm
  have hgb := hGr b off rfl
  obtain ⟨hl1, hl2, hl3, hl4⟩ := numsN_le hp hok
  have hmb := okK_le hok
  have HA : ∀ k : Nat, k < numsN p m' → (numAt p m' k).1 = leastK p m' + k := fun _ => numAt_v hp hok
  clear hY hm hm' hr c0
  refine callsIn_of_wp Try.func98 rfl trivial ?_ rfl
  simp only [Try.ntmps98, List.size_toArray, List.length_cons, List.length_nil, Nat.reduceAdd, Nat.reduceSub, Array.replicate_succ, Array.replicate_zero, List.push_toArray, List.append_toArray, List.nil_append, List.cons_append]
  gi_wp2_with (first | (gi_at_call 65; refine (calls_wd (least_any W (some ⟨b, off, none⟩) n c i ks p m' HR.out Hm.out Hok.out Hp.out)).mono ?_; rintro e w1 ⟨rfl, hb1⟩))
  have hnx1 : KpG n₀ G W w1 := KpG.of_below (hb1.mono hW0)
  have hJ0 := h0 _ hb1
  clear h0 HR Hm Hok Hp hb1
  generalize hlo : leastK p m' = lo at *
  generalize hN : numsN p m' = N at *
  have HN := hid hN
  clear hlo hN
  gi_loopw [4] (fun v wr => ∃ k : Nat, k ≤ N ∧ v = .int .i64 (lo + k) ∧ Hid (J (upto (numAt p m') k) wr) ∧ KpG n₀ G W wr) (fun v _ => (m'.many + 1 - intOf v).toNat)
  case atStart => exact ⟨0, by omega, by simp, hJ0, hnx1⟩
  case round =>
    obtain ⟨k, hk, rfl, hJs, hnx⟩ := hrel
    have q0 := (hnx.cell (p := ⟨Bs, 0, none⟩) hBs hG).trans hB
    have qi := (hnx.cell (p := ⟨Bi, 0, none⟩) hBi hGi).trans hI
    have qm := (hnx.cell (p := ⟨b, off + i * 2 + 1, none⟩) hb hgb).trans c1
    by_cases hlt : k < N
    · have x1 : lo + (k : Int) ≤ m'.many := by omega
      have z1 : IntKind.i64.wrap (lo + (k : Int) + 1) = lo + (k : Int) + 1 := wrap_ok (by omega)
      obtain ⟨fn, tmps, assign, body, hy, hR⟩ := HY.out _ (numAt p m' k) wr hJs.out (by rw [upto_length]; exact hlt)
      simp only [encN, HA k hlt] at hy
      clear hB hB1 hI c1
      gi_wp2
      refine hR.mono ?_
      rintro e W3 (⟨rfl, hJ3, hk3⟩ | ⟨rfl, hJx3⟩)
      · have HJ3 := hid hJ3
        clear hJ3
        gi_wp2
        exact ⟨⟨k + 1, by omega, by congr 1; omega, hid (by rw [upto_succ]; exact HJ3.out), hnx.trans hk3⟩, by first | (simp [intOf]; omega) | (simp [intOf, z1]; omega)⟩
      · have HJ3 := hid hJx3
        clear hJx3
        gi_wp2
        refine bodyPost_ret (results_none rfl _ _ _) rfl ?_
        exact ⟨⟨_, rfl⟩, .inr ⟨_, ⟨k + 1, by rw [HN.out]; omega, by rw [upto_succ]⟩, HJ3.out⟩⟩
    · obtain rfl : k = N := by omega
      have x1 : ¬ lo + (k : Int) ≤ m'.many := by omega
      gi_wp2
      go_end0
      exact ⟨⟨_, rfl⟩, .inl (by first | (rw [HN.out]; exact hJs.out) | exact ⟨_, rfl, by rw [HN.out]; exact hJs.out⟩)⟩
theorem grown_of_below {W W' : World} (h : Below W.heap.size W W') : W.grownBy W' none := ⟨h.os, h.tape, h.output, h.size, fun k hk _ => h.block k hk⟩
theorem nums_stops (d Bs Bi n₀ : Nat) (G : Nat → Prop) (A : Option Addr) (n c i : Nat) (ks : List Kd) (p : Int) (m : Kd) (hm : ks[i]? = some m) (hok : okK m = true) (hp : p = 1 ∨ p = 2) (hBs : Bs < n₀) (hG : ¬ G Bs) (hBi : Bi < n₀) (hGi : ¬ G Bi) (hGr : ∀ b off, A = some ⟨b, off, none⟩ → ¬ G b)
    (w : World) (hn₀ : n₀ ≤ w.heap.size) (hB : w.cell? ⟨Bs, 0, none⟩ = some (.slice A n c)) (hB1 : w.cell? ⟨Bs, 1, none⟩ = some (.int .i64 p)) (hI : w.cell? ⟨Bi, 0, none⟩ = some (.int .i64 i)) (hr : KdS w n₀ A n ks) :
    SeqStopsK (Wd none) d Try.prog 98 #[.pointer (some ⟨Bs, 0, none⟩), .pointer (some ⟨Bi, 0, none⟩)] encN (KpG n₀ G) (fun ys => ys = upto (numAt p m) (numsN p m)) (fun pre => ∃ k, k ≤ numsN p m ∧ pre = upto (numAt p m) k) (numsN p m) w := fun l J Jx W hW hJ _ hY h0 =>
  nums1_in d l Bs Bi n₀ G A n c i ks p m hm hok hp hBs hG hBi hGi hGr J Jx hY W (Nat.le_trans hn₀ hW.size) ((hW.cell (p := ⟨Bs, 0, none⟩) (by simp; omega)).trans hB) ((hW.cell (p := ⟨Bs, 1, none⟩) (by simp; omega)).trans hB1) ((hW.cell (p := ⟨Bi, 0, none⟩) (by simp; omega)).trans hI) (hr.below (hW.mono hn₀) (Nat.le_refl _)) (fun W' hb => hJ [] W W' none h0 (grown_of_below hb) (fun r e => by cases e))
end Go.Proofs.Ytolghmhodaphfaa
/- Plain law of the table of ways. No program in sight. -/
namespace Go.Proofs.Ytolghmhodaphfaa
/-- What has come to an amount when some numbers of a kind are over. -/
def accW (f : Int → Int) (lo wt : Int) (j : Nat) (x : Int) : Int := ((List.range j).map fun i : Nat => f (x - (lo + i) * wt)).sum
theorem accW_zero (f : Int → Int) (lo wt x : Int) : accW f lo wt 0 x = 0 := rfl
theorem accW_succ (f : Int → Int) (lo wt : Int) (j : Nat) (x : Int) : accW f lo wt (j + 1) x = accW f lo wt j x + f (x - (lo + j) * wt) := by unfold accW; rw [List.range_succ, List.map_append, List.sum_append]; simp
theorem accW_all {p : Int} {ks : List Kd} {i : Nat} {m : Kd} (h : ks[i]? = some m) (x : Int) : accW (ways p (ks.take i)) (leastK p m) m.wt (m.many - leastK p m + 1).toNat x = ways p (ks.take (i + 1)) x := by
  rw [List.take_add_one, h]
  simp only [Option.toList_some]
  rw [ways_snoc]
  rfl
/-- One cell of the next table: the numbers that are over, and of the one under way the amounts below a. -/
def cellW (f : Int → Int) (lo wt most : Int) (j : Nat) (a t : Int) : Int := accW f lo wt j (t - most) + if 0 ≤ t - (lo + j) * wt ∧ t - (lo + j) * wt < a then f (t - (lo + j) * wt - most) else 0
theorem cellW_zero (f : Int → Int) (lo wt most : Int) (j : Nat) (t : Int) : cellW f lo wt most j 0 t = accW f lo wt j (t - most) := by unfold cellW; rw [if_neg (by omega)]; omega
theorem cellW_full {f : Int → Int} {lo wt most : Int} {j : Nat} {t : Int} (hf : ∀ x, (x < -most ∨ most < x) → f x = 0) : cellW f lo wt most j (2 * most + 1) t = accW f lo wt (j + 1) (t - most) := by
  unfold cellW
  rw [accW_succ]
  have e : t - (lo + j) * wt - most = t - most - (lo + j) * wt := by omega
  split
  · rw [e]
  · rw [hf (t - most - (lo + j) * wt) (by omega)]
theorem cellW_step {f : Int → Int} {lo wt most : Int} {j : Nat} {a t : Int} (ha : 0 ≤ a) : cellW f lo wt most j (a + 1) t = cellW f lo wt most j a t + if t = a + (lo + j) * wt then f (a - most) else 0 := by
  unfold cellW
  generalize (lo + j) * wt = s
  by_cases h : t = a + s
  · subst h
    have e : a + s - s = a := by omega
    rw [if_pos (by omega), if_neg (by omega), if_pos rfl, e]; omega
  · rw [if_neg h]
    by_cases h2 : 0 ≤ t - s ∧ t - s < a
    · rw [if_pos h2, if_pos (by omega)]; omega
    · rw [if_neg h2, if_neg (by omega)]; omega
theorem cellW_same {f : Int → Int} {lo wt most : Int} {j : Nat} {a t : Int} (ha : 0 ≤ a) (h : f (a - most) = 0) : cellW f lo wt most j (a + 1) t = cellW f lo wt most j a t := by rw [cellW_step ha, h]; split <;> omega
/-- A row of numbers, by place. -/
def rowOf (L : Nat) (f : Int → Int) : List Int := (List.range L).map fun t : Nat => f t
theorem rowOf_len (L : Nat) (f : Int → Int) : (rowOf L f).length = L := by simp [rowOf]
theorem rowOf_at {L : Nat} {f : Int → Int} {t : Nat} (h : t < L) : (rowOf L f)[t]? = some (f t) := by simp [rowOf, h]
theorem rowOf_congr {L : Nat} {f g : Int → Int} (h : ∀ t : Nat, t < L → f t = g t) : rowOf L f = rowOf L g := List.map_congr_left fun t ht => h t (List.mem_range.1 ht)
theorem rowOf_far {L : Nat} {f : Int → Int} {t : Nat} (h : L ≤ t) : (rowOf L f)[t]? = none := List.getElem?_eq_none (by rw [rowOf_len]; exact h)
theorem rowOf_set {L : Nat} {f g : Int → Int} {t : Nat} {v : Int} (h : ∀ s : Nat, s < L → g s = if s = t then v else f s) : (rowOf L f).set t v = rowOf L g := by
  apply List.ext_getElem?
  intro s
  rw [List.getElem?_set]
  rcases Nat.lt_or_ge s L with hs | hs
  · rw [rowOf_at hs, rowOf_at hs, h s hs]
    by_cases e : t = s
    · subst e
      rw [if_pos rfl, if_pos (by rw [rowOf_len]; exact hs), if_pos rfl]
    · rw [if_neg e, if_neg (fun q => e q.symm)]
  · rw [rowOf_far hs, rowOf_far hs]
    by_cases e : t = s
    · subst e
      rw [if_pos rfl, if_neg (by rw [rowOf_len]; omega)]
    · rw [if_neg e]
end Go.Proofs.Ytolghmhodaphfaa
/- How many lays there can be: a bound. No program in sight. -/
namespace Go.Proofs.Ytolghmhodaphfaa
def nn (i : Nat) : Nat := [1000, 29432, 14902, 10059, 7637, 6184, 5226, 4535, 4004].getD i 0
def pw : List Nat → Nat
  | [] => 1
  | m :: ms => (2 * m + 1) * pw ms
def sw : Nat → List Nat → Nat
  | _, [] => 0
  | i, m :: ms => i * m + sw (i + 1) ms
def an : Nat → Nat → Nat
  | _, 0 => 1
  | i, n + 1 => nn i * an (i + 1) n
theorem nn_all : ∀ i, i < 8 → ∀ m, m < 301 → (2 * m + 1) * 39 ^ ((i + 1) * m) * 1000 ≤ nn (i + 1) * 40 ^ ((i + 1) * m) := by decide +kernel
theorem an_all : ∀ n, n < 9 → an 1 n * 40 ^ 300 ≤ 10 ^ 12 * 39 ^ 300 * 1000 ^ n := by decide +kernel
theorem pw_le : ∀ (ms : List Nat) (i : Nat), i + ms.length ≤ 8 → (∀ m ∈ ms, m ≤ 300) → pw ms * 39 ^ sw (i + 1) ms * 1000 ^ ms.length ≤ an (i + 1) ms.length * 40 ^ sw (i + 1) ms
  | [], _, _, _ => by simp [pw, sw, an]
  | m :: ms, i, h, hm => by
    simp only [List.length_cons] at h
    have h1 := pw_le ms (i + 1) (by omega) fun x hx => hm x (by simp [hx])
    have h2 := nn_all i (by omega) m (by have := hm m (by simp); omega)
    have h3 := Nat.mul_le_mul h2 h1
    simp only [pw, sw, an, List.length_cons, Nat.pow_add, Nat.pow_one]
    calc _ = (2 * m + 1) * 39 ^ ((i + 1) * m) * 1000 * (pw ms * 39 ^ sw (i + 1 + 1) ms * 1000 ^ ms.length) := by ac_rfl
      _ ≤ _ := h3
      _ = _ := by ac_rfl
theorem pw_fineT {ms : List Nat} {T R : Nat} (h : ms.length ≤ 8) (hm : ∀ m ∈ ms, m ≤ 300) (hs : sw 1 ms ≤ T) (h2 : an 1 ms.length * 40 ^ T ≤ R * 39 ^ T * 1000 ^ ms.length) : pw ms ≤ R := by
  have h1 := pw_le ms 0 (by omega) hm
  obtain ⟨d, rfl⟩ : ∃ d, T = sw 1 ms + d := ⟨T - sw 1 ms, by omega⟩
  have h3 : pw ms * 39 ^ (sw 1 ms + d) * 1000 ^ ms.length ≤ an 1 ms.length * 40 ^ (sw 1 ms + d) := by
    rw [Nat.pow_add, Nat.pow_add]
    calc _ = pw ms * 39 ^ sw 1 ms * 1000 ^ ms.length * 39 ^ d := by ac_rfl
      _ ≤ an 1 ms.length * 40 ^ sw 1 ms * 40 ^ d := Nat.mul_le_mul h1 (Nat.pow_le_pow_left (by omega) d)
      _ = _ := by ac_rfl
  have h4 : pw ms * (39 ^ (sw 1 ms + d) * 1000 ^ ms.length) ≤ R * (39 ^ (sw 1 ms + d) * 1000 ^ ms.length) := by
    rw [← Nat.mul_assoc, ← Nat.mul_assoc]; exact Nat.le_trans h3 h2
  exact Nat.le_of_mul_le_mul_right h4 (Nat.mul_pos (Nat.pow_pos (by omega)) (Nat.pow_pos (by omega)))
theorem pw_fine {ms : List Nat} (h : ms.length ≤ 8) (hm : ∀ m ∈ ms, m ≤ 300) (hs : sw 1 ms ≤ 300) : pw ms ≤ 10 ^ 12 := pw_fineT h hm hs (an_all ms.length (by omega))
end Go.Proofs.Ytolghmhodaphfaa
/- How many lays of an amount a valid set has at most. No program in sight. -/
namespace Go.Proofs.Ytolghmhodaphfaa
theorem sum_le {l : List Nat} {g : Nat → Int} {B : Int} (h : ∀ j ∈ l, g j ≤ B) : (l.map g).sum ≤ l.length * B := by
  induction l with
  | nil => simp
  | cons a l ih =>
    have h1 := ih fun j hj => h j (by simp [hj])
    have h2 := h a (by simp)
    simp only [List.map_cons, List.sum_cons, List.length_cons]
    rw [show ((l.length + 1 : Nat) : Int) * B = l.length * B + B by rw [Int.natCast_succ, Int.add_mul, Int.one_mul]]
    omega
theorem accW_le {f : Int → Int} {B lo wt : Int} {j : Nat} (h : ∀ x, f x ≤ B) (x : Int) : accW f lo wt j x ≤ j * B := by
  unfold accW
  have := sum_le (l := List.range j) (g := fun i : Nat => f (x - (lo + i) * wt)) (B := B) fun i _ => h _
  rwa [List.length_range] at this
theorem accW_nonneg {f : Int → Int} {lo wt : Int} (h : ∀ x, 0 ≤ f x) (x : Int) : ∀ j : Nat, 0 ≤ accW f lo wt j x
  | 0 => by rw [accW_zero]; omega
  | j + 1 => by rw [accW_succ]; have := accW_nonneg h x j (lo := lo) (wt := wt); have := h (x - (lo + j) * wt); omega
theorem accW_mono {f : Int → Int} {lo wt : Int} (h : ∀ x, 0 ≤ f x) (x : Int) {i : Nat} : ∀ {j : Nat}, i ≤ j → accW f lo wt i x ≤ accW f lo wt j x
  | 0, hij => by obtain rfl : i = 0 := by omega
                 omega
  | j + 1, hij => by
    rcases Nat.lt_or_ge i (j + 1) with h1 | h1
    · have h2 := accW_mono h x (lo := lo) (wt := wt) (i := i) (j := j) (by omega)
      rw [accW_succ]
      have := h (x - (lo + j) * wt)
      omega
    · obtain rfl : i = j + 1 := by omega
      omega
def manys (ks : List Kd) : List Nat := ks.map fun k => k.many.toNat
theorem pw_pos : ∀ ms : List Nat, 0 < pw ms
  | [] => by simp [pw]
  | m :: ms => Nat.mul_pos (by omega) (pw_pos ms)
theorem pw_take : ∀ (ms : List Nat) (i : Nat), pw (ms.take i) ≤ pw ms
  | [], i => by simp
  | m :: ms, 0 => pw_pos (m :: ms)
  | m :: ms, i + 1 => Nat.mul_le_mul_left _ (pw_take ms i)
theorem ways_pw {p : Int} (hp : p = 1 ∨ p = 2) : ∀ {ks : List Kd}, (∀ k ∈ ks, okK k = true) → ∀ a, ways p ks a ≤ pw (manys ks)
  | [], _, a => by unfold ways; split <;> simp [manys, pw]
  | k :: ks, h, a => by
    have h1 := ways_pw hp (ks := ks) fun q hq => h q (by simp [hq])
    have h2 : 0 ≤ k.many ∧ ((k.many - leastK p k + 1).toNat : Int) ≤ 2 * k.many.toNat + 1 := by
      have := h k (by simp)
      rw [okK_t] at this
      unfold leastK
      rcases hp with e | e <;> subst e <;> omega
    unfold ways sumR
    have h3 := sum_le (l := List.range (k.many - leastK p k + 1).toNat) (g := fun j : Nat => ways p ks (a - (leastK p k + j) * k.wt)) (B := pw (manys ks)) fun i _ => h1 _
    rw [List.length_range] at h3
    refine Int.le_trans h3 ?_
    have h4 : manys (k :: ks) = k.many.toNat :: manys ks := rfl
    rw [h4]
    simp only [pw]
    rw [Int.natCast_mul]
    refine Int.mul_le_mul_of_nonneg_right ?_ (by omega)
    rw [Int.natCast_add, Int.natCast_mul]
    exact h2.2
theorem sw_le : ∀ {ks : List Kd} {i : Nat}, (∀ k ∈ ks, okK k = true) → (∀ j m, ks[j]? = some m → ((i + j : Nat) : Int) ≤ m.wt) → (sw i (manys ks) : Int) ≤ sumOf ks
  | [], _, _, _ => by simp [manys, sw, sumOf]
  | k :: ks, i, h, hw => by
    have h1 := sw_le (ks := ks) (i := i + 1) (fun q hq => h q (by simp [hq])) fun j m hj => by
      have := hw (j + 1) m (by simpa using hj)
      omega
    have h2 := h k (by simp)
    rw [okK_t] at h2
    have h3 := hw 0 k rfl
    have h4 : manys (k :: ks) = k.many.toNat :: manys ks := rfl
    rw [h4]
    have h7 : sumOf (k :: ks) = k.wt * k.many + sumOf ks := by simp [sumOf]
    rw [h7]
    simp only [sw]
    have h5 : (i : Int) * k.many ≤ k.wt * k.many := Int.mul_le_mul_of_nonneg_right (by omega) (by omega)
    have h6 : ((i * k.many.toNat : Nat) : Int) = i * k.many := by rw [Int.natCast_mul, Int.toNat_of_nonneg (by omega)]
    omega
theorem wt_rise {l : List Kd} (h : ∀ k ∈ l, okK k = true) (hr : risingK l = true) : ∀ (j : Nat) (m : Kd), l[j]? = some m → ((1 + j : Nat) : Int) ≤ m.wt
  | 0, m, hj => by
    have := h m (List.mem_of_getElem? hj)
    rw [okK_t] at this; omega
  | j + 1, m, hj => by
    have hl : j + 1 < l.length := (List.getElem?_eq_some_iff.1 hj).1
    have h1 : l[j]? = some l[j] := List.getElem?_eq_getElem (by omega)
    have h2 := wt_rise h hr j _ h1
    have h3 := List.all_eq_true.1 hr (j + 1) (List.mem_range.2 hl)
    unfold riseAt at h3
    rw [kAt_of hj, show j + 1 - 1 = j by omega, kAt_of h1] at h3
    simp at h3
    omega
theorem checkSet_good {l : List Kd} (h : checkSet l = 0) : 1 ≤ l.length ∧ l.length ≤ 8 ∧ l.all okK = true ∧ risingK l = true ∧ sumOf l ≤ 300 := by
  unfold checkSet at h
  split at h
  · cases h
  · split at h
    · cases h
    · split at h
      · cases h
      · split at h
        · cases h
        · rename_i a b c d
          exact ⟨by omega, by omega, by simpa using b, by simpa using c, by omega⟩
/-- A valid set has at most a million million lays. -/
theorem pw_valid {l : List Kd} (h : checkSet l = 0) : pw (manys l) ≤ 10 ^ 12 := by
  obtain ⟨h1, h2, h3, h4, h5⟩ := checkSet_good h
  have hk := List.all_eq_true.1 h3
  refine pw_fine (by simpa [manys] using h2) ?_ ?_
  · intro m hm
    obtain ⟨k, hk1, rfl⟩ := List.mem_map.1 hm
    have := hk k hk1
    rw [okK_t] at this; omega
  · have := sw_le (i := 1) hk (wt_rise hk h4)
    omega
theorem ways_valid {p : Int} {l : List Kd} (h : checkSet l = 0) (hp : p = 1 ∨ p = 2) (i : Nat) (a : Int) : ways p (l.take i) a ≤ 1000000000000 := by
  have hk := List.all_eq_true.1 (checkSet_good h).2.2.1
  have h1 := ways_pw hp (ks := l.take i) (fun k hm => hk k (List.mem_of_mem_take hm)) a
  have h2 := pw_take (manys l) i
  have h3 := pw_valid h
  have h4 : manys (l.take i) = (manys l).take i := by simp [manys, List.map_take]
  rw [h4] at h1
  omega
end Go.Proofs.Ytolghmhodaphfaa
/- Walks: small functions of the law. -/
namespace Go.Proofs.Ytolghmhodaphfaa
open Go.RowKit
theorem great_any (A : Option Addr) (n c : Nat) (w : World) : Calls Try.prog 17 #[.slice A n c] w fun e w' => e = .returned (.bool (decide (12 < n))) ∧ Below w.heap.size w w' := by
  have e : Hid (decide (12 < n) = decide ((12 : Int) < n)) := hid (by rw [Bool.eq_iff_iff]; simp; omega)
  go_enter Try.func17, Try.ntmps17
  go_wp2
  go_ret
  exact ⟨by rw [e.out]; rfl, Below.refl _ _⟩
theorem long_any (A : Option Addr) (n c : Nat) (w : World) : Calls Try.prog 18 #[.slice A n c] w fun e w' => e = .returned (.bool (decide (12 < n))) ∧ Below w.heap.size w w' := by
  have e : Hid (decide (12 < n) = decide ((12 : Int) < n)) := hid (by rw [Bool.eq_iff_iff]; simp; omega)
  go_enter Try.func18, Try.ntmps18
  go_wp2
  go_ret
  exact ⟨by rw [e.out]; rfl, Below.refl _ _⟩
def pansOf (b : Bool) : Int := if b then 2 else 1
theorem pansOf_or (b : Bool) : pansOf b = 1 ∨ pansOf b = 2 := by cases b <;> simp [pansOf]
theorem pans_any (b : Bool) (w : World) : Calls Try.prog 52 #[.bool b] w fun e w' => e = .returned (.int .i64 (pansOf b)) ∧ Below w.heap.size w w' := by
  cases b
  all_goals
    go_enter Try.func52, Try.ntmps52
    go_wp2
    go_ret
    exact ⟨rfl, Below.refl _ _⟩
def fineB (l : List Kd) : Bool := !decide (12 < l.length) && checkSet l == 0
theorem fine_any (A : Option Addr) (n c : Nat) (l : List Kd) (w : World) (hl : KdS w w.heap.size A n l) : Calls Try.prog 51 #[.slice A n c] w fun e w' => e = .returned (.bool (fineB l)) ∧ Below w.heap.size w w' := by
  have hlen := hl.len
  cases hd : decide (12 < n)
  · have e : Hid (fineB l = (checkSet l == 0)) := hid (by unfold fineB; rw [hlen, hd]; simp)
    have hn : n ≤ 12 := by have := of_decide_eq_false hd; omega
    have Hd := hid hd
    clear hd hlen
    go_enter Try.func51, Try.ntmps51
    go_wp2_with (first | (go_at_call 17; refine (great_any A n c _).mono ?_; rw [Hd.out]; rintro e w1 ⟨rfl, hb1⟩; have hz1 := hb1.size) | (go_at_call 23; refine (refCheckSet_any _ A n c l (hl.below hb1 hz1) hn).mono ?_; rintro e w2 ⟨rfl, hb2⟩))
    go_ret
    exact ⟨by rw [e.out]; rfl, hb1.trans (hb2.mono hz1)⟩
  · have e : Hid (fineB l = false) := hid (by unfold fineB; rw [hlen, hd]; simp)
    have Hd := hid hd
    clear hd hlen hl
    go_enter Try.func51, Try.ntmps51
    go_wp2_with (first | (go_at_call 17; refine (great_any A n c _).mono ?_; rw [Hd.out]; rintro e w1 ⟨rfl, hb1⟩; have hz1 := hb1.size))
    go_ret
    exact ⟨by rw [e.out]; rfl, hb1⟩
end Go.Proofs.Ytolghmhodaphfaa
/- Walks: two sets are the same, two lists are the same. -/
namespace Go.Proofs.Ytolghmhodaphfaa
open Go.RowKit
theorem take_eq_succ {α : Type} {a b : List α} {k : Nat} {x : α} (h : a.take k = b.take k) (ha : a[k]? = some x) (hb : b[k]? = some x) : a.take (k + 1) = b.take (k + 1) := by
  rw [List.take_add_one, List.take_add_one, h, ha, hb]
theorem ne_of_at {α : Type} {a b : List α} {k : Nat} {x y : α} (ha : a[k]? = some x) (hb : b[k]? = some y) (h : x ≠ y) : a ≠ b := fun e => by
  rw [e, hb] at ha; exact h (Option.some.inj ha).symm
def eqI (a b : List Int) : Bool := decide (a = b)
theorem eqI_t {a b : List Int} : eqI a b = true ↔ a = b := by simp [eqI]
def eqKs (a b : List Kd) : Bool := decide (a.map (fun r => (r.wt, r.many)) = b.map (fun r => (r.wt, r.many)))
theorem eqKs_t {a b : List Kd} : eqKs a b = true ↔ a = b := by
  simp only [eqKs, decide_eq_true_eq]
  refine ⟨fun h => ?_, fun h => by rw [h]⟩
  have : Function.Injective (fun r : Kd => (r.wt, r.many)) := fun x y e => by injection e with e1 e2; exact Kd.eq_of e1 e2
  exact (List.map_inj_right this).1 h
theorem eq61 (W : World) (d : Nat) (a b a' b' : Int) : (Op.equalIn (d + 2) 61 (.agg #[.int .i64 a, .int .i64 b]) (.agg #[.int .i64 a', .int .i64 b'])).run Try.prog W = .ok (a == a' && b == b') W := by
  rw [run_equalIn_struct W (d + 1) 61 _ _ (by kernel_rfl) (by kernel_rfl)]
  go_simp
  by_cases h1 : a = a' <;> by_cases h2 : b = b' <;> simp [h1, h2]
theorem neq61 (W : World) (a b a' b' : Int) : (binOp .neq 61 (.agg #[.int .i64 a, .int .i64 b]) (.agg #[.int .i64 a', .int .i64 b'])).run Try.prog W = .ok (.bool (!(a == a' && b == b'))) W := by
  simp only [binOp]
  simp [Op.equal, Op.maxDepth, eq61 W 9998 a b a' b']
set_option maxHeartbeats 1000000 in
theorem same_any (w : World) (A B : Option Addr) (n c m d : Nat) (a b : List Kd) (ha : KdS w w.heap.size A n a) (hb : KdS w w.heap.size B m b) (hn : n ≤ 100) :
    Calls Try.prog 50 #[.slice A n c, .slice B m d] w fun e w' => e = .returned (.bool (eqKs a b)) ∧ Below w.heap.size w w' := by
  have la := hid ha.len
  have lb := hid hb.len
  by_cases hnm : n = m
  · subst hnm
    have t0 : ((n : Int) != (n : Int)) = false := by simp
    go_enter Try.func50, Try.ntmps50
    go_wp2
    go_loopw [5] (fun i wr => ∃ k : Nat, k ≤ n ∧ i = .int .i64 k ∧ Hid (a.take k = b.take k) ∧ Below w.heap.size w wr) (fun i _ => n - (intOf i).toNat)
    case atStart => exact ⟨0, by omega, rfl, by simp [Hid], Below.refl _ _⟩
    case round =>
      obtain ⟨k, hk, rfl, heq, hbel⟩ := hrel
      have hsz := hbel.size
      by_cases hlt : k < n
      · obtain ⟨b1, o1, x, rfl, hb1, hx, c1, c2⟩ := (ha.below hbel (Nat.le_refl _)).at_ hlt
        obtain ⟨b2, o2, y, rfl, hb2, hy, d1, d2⟩ := (hb.below hbel (Nat.le_refl _)).at_ hlt
        have HX := hid hx
        have HY := hid hy
        have hlti : (k : Int) < n := by omega
        have hk0 : (0 : Int) ≤ k := by omega
        have hneq := fun W => neq61 W x.wt x.many y.wt y.many
        clear hx hy
        by_cases hxy : x = y
        · subst hxy
          have t1 : (x.wt == x.wt) = true := by simp
          have t2 : (x.many == x.many) = true := by simp
          go_wp2
          go_quiet (fail)
          go_wp2
          exact ⟨⟨k + 1, by omega, by go_num, take_eq_succ heq.out HX.out HY.out, below_drewN hbel _⟩, by simp [intOf]; omega⟩
        · have t1 : (x.wt == y.wt && x.many == y.many) = false := by
            cases h : (x.wt == y.wt && x.many == y.many)
            · rfl
            · simp at h; exact absurd (Kd.eq_of h.1 h.2) hxy
          have hfin : Hid (eqKs a b = false) := hid (by cases h : eqKs a b; exact rfl; exact absurd (eqKs_t.1 h) (ne_of_at HX.out HY.out hxy))
          clear hxy
          go_wp2
          go_quiet (fail)
          go_wp2
          go_ret
          exact ⟨by rw [hfin.out]; rfl, below_drewN hbel _⟩
      · obtain rfl : k = n := by omega
        have hfin : Hid (eqKs a b = true) := hid (eqKs_t.2 (by have := heq.out; rwa [List.take_of_length_le (by rw [la.out]; omega), List.take_of_length_le (by rw [lb.out]; omega)] at this))
        go_wp2
        go_ret
        exact ⟨by rw [hfin.out]; rfl, hbel⟩
  · have t0 : ((n : Int) != (m : Int)) = true := by simp; omega
    have hfin : Hid (eqKs a b = false) := hid (by cases h : eqKs a b; exact rfl; exact absurd (eqKs_t.1 h) (fun e => hnm (by rw [← la.out, ← lb.out, e])))
    clear hnm
    go_enter Try.func50, Try.ntmps50
    go_wp2
    go_ret
    exact ⟨by rw [hfin.out]; rfl, Below.refl _ _⟩
set_option maxHeartbeats 1000000 in
theorem longs_any (w : World) (A B : Option Addr) (n c m d : Nat) (a b : List Int) (ha : InS w w.heap.size A n a) (hb : InS w w.heap.size B m b) (hn : n ≤ 1000000) :
    Calls Try.prog 30 #[.slice A n c, .slice B m d] w fun e w' => e = .returned (.bool (eqI a b)) ∧ Below w.heap.size w w' := by
  have la := hid ha.len
  have lb := hid hb.len
  by_cases hnm : n = m
  · subst hnm
    have t0 : ((n : Int) != (n : Int)) = false := by simp
    go_enter Try.func30, Try.ntmps30
    go_wp2
    go_loopw [5] (fun i wr => ∃ k : Nat, k ≤ n ∧ i = .int .i64 k ∧ Hid (a.take k = b.take k) ∧ Below w.heap.size w wr) (fun i _ => n - (intOf i).toNat)
    case atStart => exact ⟨0, by omega, rfl, by simp [Hid], Below.refl _ _⟩
    case round =>
      obtain ⟨k, hk, rfl, heq, hbel⟩ := hrel
      have hsz := hbel.size
      by_cases hlt : k < n
      · obtain ⟨b1, o1, x, rfl, hb1, hx, c1⟩ := (ha.below hbel (Nat.le_refl _)).at_ hlt
        obtain ⟨b2, o2, y, rfl, hb2, hy, d1⟩ := (hb.below hbel (Nat.le_refl _)).at_ hlt
        have HX := hid hx
        have HY := hid hy
        have hlti : (k : Int) < n := by omega
        have hk0 : (0 : Int) ≤ k := by omega
        clear hx hy
        by_cases hxy : x = y
        · subst hxy
          have t1 : (x != x) = false := by simp
          go_wp2
          go_quiet (fail)
          go_wp2
          exact ⟨⟨k + 1, by omega, by go_num, take_eq_succ heq.out HX.out HY.out, below_drewN hbel _⟩, by simp [intOf]; omega⟩
        · have t1 : (x != y) = true := by simpa using hxy
          have hfin : Hid (eqI a b = false) := hid (by cases h : eqI a b; exact rfl; exact absurd (eqI_t.1 h) (ne_of_at HX.out HY.out hxy))
          clear hxy
          go_wp2
          go_quiet (fail)
          go_wp2
          go_ret
          exact ⟨by rw [hfin.out]; rfl, below_drewN hbel _⟩
      · obtain rfl : k = n := by omega
        have hfin : Hid (eqI a b = true) := hid (eqI_t.2 (by have := heq.out; rwa [List.take_of_length_le (by rw [la.out]; omega), List.take_of_length_le (by rw [lb.out]; omega)] at this))
        go_wp2
        go_ret
        exact ⟨by rw [hfin.out]; rfl, hbel⟩
  · have t0 : ((n : Int) != (m : Int)) = true := by simp; omega
    have hfin : Hid (eqI a b = false) := hid (by cases h : eqI a b; exact rfl; exact absurd (eqI_t.1 h) (fun e => hnm (by rw [← la.out, ← lb.out, e])))
    clear hnm
    go_enter Try.func30, Try.ntmps30
    go_wp2
    go_ret
    exact ⟨by rw [hfin.out]; rfl, Below.refl _ _⟩
end Go.Proofs.Ytolghmhodaphfaa
