/- Texts of the proof, laid together by program. -/
import Derived.Test.YtolghmhodaphfaaMg
/- Walks: Lay, Fewest. -/
namespace Go.Proofs.Ytolghmhodaphfaa
open Go.RowKit
attribute [local go_sem] Oper.semAt_some
def layE (p : Int) (ks : List Kd) (a : Int) : Int := if askedE ks p a ≠ 0 then askedE ks p a else if (fewO p ks a).isSome then 0 else 24
def layV (p : Int) (ks : List Kd) (a : Int) : List Int := if layE p ks a = 0 then layL p ks a else []
set_option maxHeartbeats 800000 in
theorem lay_any (w : World) (A : Option Addr) (n c : Nat) (ks : List Kd) (p a : Int) (hk : KdS w w.heap.size A n ks) (hn : n ≤ 12) :
    Calls Try.prog 35 #[.slice A n c, .int .i64 p, .int .i64 a] w fun e w' => ∃ A' m c', e = .returned (.tuple #[.slice A' m c', .int .i64 (layE p ks a)]) ∧ InS w' w'.heap.size A' m (layV p ks a) ∧ Below w.heap.size w w' := by
  cases he : (askedE ks p a != 0)
  · have he0 : askedE ks p a = 0 := by simpa using he
    obtain ⟨ho, ha0, ha1⟩ := askedE_zero he0
    obtain ⟨hs, hp⟩ := openE_zero ho
    have hE := hid he0
    have HP := hid hp
    have hs' := hid hs
    cases hf : fewO p ks a with
    | none =>
      have hv : Hid (layE p ks a = 24) := hid (by unfold layE; rw [if_neg (by omega), hf]; rfl)
      have hv2 : Hid (layV p ks a = []) := hid (by unfold layV; rw [hv.out]; rfl)
      have Hf := hid hf
      clear he he0 ho hs hp hf
      go_enter Try.func35, Try.ntmps35
      go_wp2_with (first | (go_at_call 80; refine (asked_ok _ A n c ks p _ hk hn hE.out).mono ?_; rintro e w1 ⟨g, rfl, hg1, hg2, hsc, hb1⟩; have hz1 := hb1.size) | (go_at_call 83; refine (lay_none _ A g n c ks p a hg2 hsc (hk.below hb1 hz1) hs'.out HP.out ha0 ha1 Hf.out).mono ?_; rintro e w2 ⟨rfl, hb2⟩))
      refine bodyPost_ret (v := .tuple #[.slice none 0 0, .int .i64 24]) (by first | (simp [results, Try.results35, go_sem]; done) | (simp [results, Try.results35, go_sem, *]; done) | (simp [results, Try.results35, go_sem, World.cell?_setCell_same', *]; done) | (simp [results, Try.results35, go_sem]; first | exact ⟨rfl, rfl⟩ | rfl)) rfl ⟨none, 0, 0, by rw [hv.out], by rw [hv2.out]; exact Sl.none_, hb1.trans (hb2.mono hz1)⟩
    | some y =>
      have hv : Hid (layE p ks a = 0) := hid (by unfold layE; rw [if_neg (by omega), hf]; rfl)
      have hv2 : Hid (layV p ks a = layL p ks a) := hid (by unfold layV; rw [hv.out]; rfl)
      have Hf := hid hf
      clear he he0 ho hs hp hf
      go_enter Try.func35, Try.ntmps35
      go_wp2_with (first | (go_at_call 80; refine (asked_ok _ A n c ks p _ hk hn hE.out).mono ?_; rintro e w1 ⟨g, rfl, hg1, hg2, hsc, hb1⟩; have hz1 := hb1.size) | (go_at_call 83; refine (lay_some _ A g n c ks p a hg2 hsc (hk.below hb1 hz1) hs'.out HP.out ha0 ha1 y Hf.out).mono ?_; rintro e w2 ⟨⟨q, c', rfl, hin⟩, hb2⟩; have hin' := hid hin; clear hin))
      refine bodyPost_ret (v := .tuple #[.slice (some ⟨q, 0, none⟩) n c', .int .i64 0]) (by first | (simp [results, Try.results35, go_sem]; done) | (simp [results, Try.results35, go_sem, *]; done) | (simp [results, Try.results35, go_sem, World.cell?_setCell_same', *]; done) | (simp [results, Try.results35, go_sem]; first | exact ⟨rfl, rfl⟩ | rfl)) rfl ⟨some ⟨q, 0, none⟩, n, c', by rw [hv.out], by rw [hv2.out]; exact hin'.out, hb1.trans (hb2.mono hz1)⟩
  · have he0 : askedE ks p a ≠ 0 := by simpa using he
    have hv : Hid (layE p ks a = askedE ks p a) := hid (if_pos he0)
    have hv2 : Hid (layV p ks a = []) := hid (if_neg (by rw [hv.out]; exact he0))
    go_enter Try.func35, Try.ntmps35
    go_wp2_with (first | (go_at_call 80; refine (asked_bad _ A n c ks p a hk hn he0).mono ?_; rintro e w1 ⟨rfl, hb1⟩))
    refine bodyPost_ret (v := .tuple #[.slice none 0 0, .int .i64 (askedE ks p a)]) (by first | (simp [results, Try.results35, go_sem]; done) | (simp [results, Try.results35, go_sem, *]; done) | (simp [results, Try.results35, go_sem, World.cell?_setCell_same', *]; done) | (simp [results, Try.results35, go_sem]; first | exact ⟨rfl, rfl⟩ | rfl)) rfl ⟨none, 0, 0, by rw [hv.out], by rw [hv2.out]; exact Sl.none_, hb1⟩
theorem lay_small {p : Int} (hp : p = 1 ∨ p = 2) : ∀ {ks : List Kd} {l : List Int}, ks.all okK = true → LayOk p ks l → ∀ x ∈ l, absI x ≤ 300
  | [], [], _, _ => fun x h => by cases h
  | k :: ks, n :: l, h, ⟨h1, h2, h3⟩ => by
    simp only [List.all_cons, Bool.and_eq_true] at h
    have hk := okK_t.1 h.1
    intro x hx
    rcases List.mem_cons.1 hx with rfl | hx
    · unfold absI leastK at *
      rcases hp with rfl | rfl <;> omega
    · exact lay_small hp h.2 h3 x hx
  | [], _ :: _, _, h => h.elim
  | _ :: _, [], _, h => h.elim
theorem layE_zero {p : Int} {ks : List Kd} {a : Int} (h : layE p ks a = 0) : askedE ks p a = 0 ∧ ∃ y, fewO p ks a = some y := by
  unfold layE at h
  split at h
  · rename_i h0; exact absurd h h0
  · rename_i h0
    refine ⟨by simpa using h0, ?_⟩
    split at h
    · rename_i h1; exact Option.isSome_iff_exists.1 h1
    · cases h
def fewV (p : Int) (ks : List Kd) (a : Int) : Int := if layE p ks a = 0 then nv (fewO p ks a) else 0
set_option maxHeartbeats 800000 in
theorem fewest_any (w : World) (A : Option Addr) (n c : Nat) (ks : List Kd) (p a : Int) (hk : KdS w w.heap.size A n ks) (hn : n ≤ 12) :
    Calls Try.prog 33 #[.slice A n c, .int .i64 p, .int .i64 a] w fun e w' => e = .returned (.tuple #[.int .i64 (fewV p ks a), .int .i64 (layE p ks a)]) ∧ Below w.heap.size w w' := by
  cases he : (layE p ks a != 0)
  · have he0 : layE p ks a = 0 := by simpa using he
    obtain ⟨ha, y, hy⟩ := layE_zero he0
    obtain ⟨ho, ha0, ha1⟩ := askedE_zero ha
    obtain ⟨hs, hp⟩ := openE_zero ho
    obtain ⟨h1, h2, h3, h4⟩ := layL_ok hy
    obtain ⟨h6, h7, h8, -, h9⟩ := checkSet_good hs
    have hE := hid he0
    have hV : Hid (layV p ks a = layL p ks a) := hid (if_pos he0)
    have hFV : Hid (fewV p ks a = uses (layL p ks a)) := hid (by unfold fewV; rw [if_pos he0, nv_some hy, h3])
    have hsm := hid (lay_small hp h8 h1)
    have hll : Hid ((layL p ks a).length ≤ 12) := hid (by omega)
    clear he he0 ha hy ho hs hp h1 h2 h3 h4 h8
    go_enter Try.func33, Try.ntmps33
    go_wp2_with (first | (go_at_call 35; refine (lay_any _ A n c ks p a hk hn).mono ?_; rw [hE.out, hV.out]; rintro e w1 ⟨A', m, c', rfl, hin, hb1⟩; have hz1 := hb1.size; have hin' := hid hin; have hml : m ≤ 12 := by { have := hin.len; have := hll.out; omega }; clear hin) | (go_at_call 68; refine (uses_any _ A' m c' _ hin'.out (by omega) hsm.out).mono ?_; rintro e w2 ⟨rfl, hb2⟩))
    refine bodyPost_ret (v := .tuple #[.int .i64 (uses (layL p ks a)), .int .i64 0]) (by first | (simp [results, Try.results33, go_sem]; done) | (simp [results, Try.results33, go_sem, *]; done) | (simp [results, Try.results33, go_sem, World.cell?_setCell_same', *]; done) | (simp [results, Try.results33, go_sem]; first | exact ⟨rfl, rfl⟩ | rfl)) rfl ⟨by rw [hFV.out, hE.out], hb1.trans (hb2.mono hz1)⟩
  · have he0 : layE p ks a ≠ 0 := by simpa using he
    have hv : Hid (fewV p ks a = 0) := hid (if_neg he0)
    go_enter Try.func33, Try.ntmps33
    go_wp2_with (first | (go_at_call 35; refine (lay_any _ A n c ks p a hk hn).mono ?_; rintro e w1 ⟨A', m, c', rfl, hin, hb1⟩; clear hin))
    refine bodyPost_ret (v := .tuple #[.int .i64 0, .int .i64 (layE p ks a)]) (by first | (simp [results, Try.results33, go_sem]; done) | (simp [results, Try.results33, go_sem, *]; done) | (simp [results, Try.results33, go_sem, World.cell?_setCell_same', *]; done) | (simp [results, Try.results33, go_sem]; first | exact ⟨rfl, rfl⟩ | rfl)) rfl ⟨by rw [hv.out], hb1⟩
end Go.Proofs.Ytolghmhodaphfaa
/- Walks: Count. -/
namespace Go.Proofs.Ytolghmhodaphfaa
open Go.RowKit
attribute [local go_sem] Oper.semAt_some
def sv1 (l : List Int) (k m : Nat) : List Int := l.set m (IntKind.i64.wrap (l.getD m 0 + l.getD k 0))
/-- After j steps by k. -/
def svIn (k : Nat) : Nat → List Int → List Int
  | 0, l => l
  | j + 1, l => sv1 (svIn k j l) k ((j + 2) * k)
/-- After the numbers up to k. -/
def svOut (n : Nat) : Nat → List Int
  | 0 => (List.replicate (n + 1) 0).set 1 1
  | k + 1 => svIn (k + 1) (n / (k + 1) - 1) (svOut n k)
theorem sv1_len (l : List Int) (k m : Nat) : (sv1 l k m).length = l.length := by simp [sv1]
theorem svIn_len (k : Nat) (l : List Int) : ∀ j, (svIn k j l).length = l.length
  | 0 => rfl
  | j + 1 => by unfold svIn; rw [sv1_len, svIn_len k l j]
theorem svOut_len (n : Nat) : ∀ k, (svOut n k).length = n + 1
  | 0 => by simp [svOut]
  | k + 1 => by unfold svOut; rw [svIn_len, svOut_len n k]
def countN (n : Nat) : Int := (svOut n n).getD n 0
def countV (p a : Int) : Int := if ofE p a 60 = 0 then countN (p * a + 1).toNat else 0
theorem ofE_zero {p a m : Int} (h : ofE p a m = 0) : (p = 1 ∨ p = 2) ∧ 1 ≤ a ∧ a ≤ m := by
  unfold ofE at h
  cases h1 : inR 1 2 p
  · rw [if_pos h1] at h; cases h
  · rw [if_neg (by simp [h1])] at h
    cases h2 : inR 1 m a
    · rw [if_pos h2] at h; cases h
    · rw [inR_t] at h1 h2
      exact ⟨by omega, h2⟩
theorem rep_flat (n : Nat) : (List.replicate n (0 : Int)).flatMap cI = (rowOf n fun _ => 0).flatMap cI := by
  congr 1
  unfold rowOf
  rw [List.map_const']; simp
theorem blk_at {w : World} {g t : Nat} {l : List Int} (h : Blk w g t (l.flatMap cI).toArray) {i : Nat} (hi : i < l.length) : w.cell? ⟨g, i, none⟩ = some (.int .i64 (l.getD i 0)) := by
  rw [h.cell, List.getElem?_toArray, flatI_get, List.getElem?_eq_getElem hi, List.getD_eq_getElem?_getD, List.getElem?_eq_getElem hi]; rfl
theorem blk_set {w : World} {g t : Nat} {l : List Int} (h : Blk w g t (l.flatMap cI).toArray) (i : Nat) (v : Int) : Blk (w.setCell ⟨g, i, none⟩ (.int .i64 v)) g t ((l.set i v).flatMap cI).toArray := by
  have := h.set_ i (.int .i64 v)
  rwa [List.setIfInBounds_toArray, flatI_set] at this
set_option maxRecDepth 100000 in
set_option maxHeartbeats 2000000 in
theorem count_any (p a : Int) (w : World) : Calls Try.prog 41 #[.int .i64 p, .int .i64 a] w fun e w' => e = .returned (.tuple #[.int .i64 (countV p a), .int .i64 (ofE p a 60)]) ∧ Below w.heap.size w w' := by
  cases he : (ofE p a 60 != 0)
  · have he0 : ofE p a 60 = 0 := by simpa using he
    obtain ⟨hp, ha1, ha2⟩ := ofE_zero he0
    obtain ⟨N, hN⟩ : ∃ N : Nat, p * a + 1 = N := ⟨(p * a + 1).toNat, by rcases hp with rfl | rfl <;> omega⟩
    have hNb : 2 ≤ N ∧ N ≤ 121 := by rcases hp with rfl | rfl <;> omega
    have hv : Hid (countV p a = countN N) := hid (by unfold countV; rw [if_pos he0, hN]; rfl)
    have hE := hid he0
    have hpa : p * a = (N : Int) - 1 := by omega
    have z1 : IntKind.i64.wrap (p * a) = (N : Int) - 1 := by rw [hpa]; exact wrap_ok (by omega)
    have z2 : IntKind.i64.wrap ((N : Int) - 1 + 1) = N := by rw [show (N : Int) - 1 + 1 = N by omega]; exact wrap_ok (by omega)
    have z3 : IntKind.i64.wrap ((N : Int) + 1) = (N : Int) + 1 := wrap_ok (by omega)
    obtain ⟨CS, hCS⟩ : ∃ CS, madeCells #[.int .i64 0] (N + 1) = CS := ⟨_, rfl⟩
    have hCS2 : CS = ((List.replicate (N + 1) (0 : Int)).flatMap cI).toArray := by rw [← hCS, made_row, rep_flat]
    have hmk : ∀ w0 : World, (Instr.makeSlice 23 (.int .i64 ((N : Int) + 1)) (.int .i64 ((N : Int) + 1))).run Try.prog w0 = .ok (.slice (some ⟨w0.heap.size, 0, none⟩) (N + 1) (N + 1)) (w0.alloc (.cells CS 2)) := by
      intro w0
      have := make_i64 (L := N + 1) (by omega) w0
      rwa [Int.natCast_add, Int.natCast_one, hCS] at this
    have hc1 : ∀ w0 : World, (w0.alloc (.cells CS 2)).cell? ⟨w0.heap.size, 1, none⟩ = some (.int .i64 0) := fun w0 => by
      have hb : Blk (w0.alloc (.cells CS 2)) w0.heap.size 2 CS := Blk.new _ _ _
      rw [hCS2] at hb ⊢
      rw [blk_at hb (by rw [List.length_replicate]; omega)]
      rw [List.getD_eq_getElem?_getD, List.getElem?_replicate, if_pos (by omega)]; rfl
    have hf1 : ∀ w0 : World, (w0.alloc (.cells CS 2)).frozen? ⟨w0.heap.size, 1, none⟩ = false := fun w0 => (Blk.new w0 2 CS).frozen 1
    have HCS := hid hCS2
    clear hCS hCS2
    obtain ⟨hN1, hN2⟩ := hNb
    clear he he0 hp ha1 ha2 hN hpa
    go_enter Try.func41, Try.ntmps41
    go_wp2_with (first | (go_at_call 86; refine (of_any p a 60 _).mono ?_; rw [hE.out]; rintro e w1 ⟨rfl, hb1⟩; have hz1 := hb1.size))
    have hb0 : Blk (w1.alloc (.cells (CS.setIfInBounds 1 (.int .i64 1)) 2)) w1.heap.size 2 ((svOut N 0).flatMap cI).toArray := by
      have h := Blk.new w1 2 (CS.setIfInBounds 1 (.int .i64 1))
      have e : CS.setIfInBounds 1 (.int .i64 1) = ((svOut N 0).flatMap cI).toArray := by
        rw [HCS.out, List.setIfInBounds_toArray, flatI_set]; rfl
      rw [e] at h ⊢
      exact h
    have hbel0 : Below w.heap.size w (w1.alloc (.cells (CS.setIfInBounds 1 (.int .i64 1)) 2)) := hb1.alloc hz1 _
    clear hmk hc1 hf1
    go_loopw [9] (fun t wr => ∃ k : Nat, k ≤ N ∧ t = .int .i64 ((k : Int) + 1) ∧ Below w.heap.size w wr ∧ Blk wr w1.heap.size 2 ((svOut N k).flatMap cI).toArray) (fun t _ => N + 1 - (intOf t).toNat)
    case atStart => exact ⟨0, by omega, by simp, hbel0, hb0⟩
    case round =>
      obtain ⟨k, hk, rfl, hbw, hb⟩ := hrel
      by_cases hlt : k < N
      · have hle : (k : Int) + 1 ≤ N := by omega
        have y1 : IntKind.i64.wrap (2 * ((k : Int) + 1)) = 2 * ((k : Int) + 1) := wrap_ok (by omega)
        have y2 : IntKind.i64.wrap ((k : Int) + 1 + 1) = (k : Int) + 1 + 1 := wrap_ok (by omega)
        go_wp2
        go_loopw [10] (fun t wr => ∃ j : Nat, (j + 1) * (k + 1) ≤ N ∧ t = .int .i64 (((j + 2) * (k + 1) : Nat) : Int) ∧ Below w.heap.size w wr ∧ Blk wr w1.heap.size 2 ((svIn (k + 1) j (svOut N k)).flatMap cI).toArray) (fun t _ => 2 * N + 1 - (intOf t).toNat)
        case atStart => exact ⟨0, by omega, by simp, hbw, hb⟩
        case round =>
          obtain ⟨j, hj, rfl, hbw2, hb2⟩ := hrel
          obtain ⟨m, hm⟩ : ∃ m, (j + 2) * (k + 1) = m := ⟨_, rfl⟩
          have hm3 : (j + 3) * (k + 1) = m + (k + 1) := by rw [← hm, ← Nat.succ_mul]
          have hm1 : (j + 1) * (k + 1) + (k + 1) = m := by rw [← hm, ← Nat.succ_mul]
          have hlen : (svIn (k + 1) j (svOut N k)).length = N + 1 := by rw [svIn_len, svOut_len]
          rw [hm]
          by_cases hmN : m ≤ N
          · have hmi : (m : Int) ≤ N := by omega
            have x1 : IntKind.i64.wrap ((m : Int) + ((k : Int) + 1)) = (m : Int) + ((k : Int) + 1) := wrap_ok (by omega)
            obtain ⟨vm, hvm⟩ : ∃ vm, (svIn (k + 1) j (svOut N k)).getD m 0 = vm := ⟨_, rfl⟩
            obtain ⟨vk, hvk⟩ : ∃ vk, (svIn (k + 1) j (svOut N k)).getD (k + 1) 0 = vk := ⟨_, rfl⟩
            obtain ⟨vs, hvs⟩ : ∃ vs, IntKind.i64.wrap (vm + vk) = vs := ⟨_, rfl⟩
            have c1 := blk_at hb2 (i := m) (by omega)
            have c2 := blk_at hb2 (i := k + 1) (by omega)
            rw [hvm] at c1
            rw [hvk] at c2
            have l1 := hb2.lt
            have x2 : m < N + 1 := by omega
            have x3 : (m : Int) < N + 1 := by omega
            have x4 : (k : Int) + 1 < N + 1 := by omega
            have x5 : 0 ≤ (k : Int) + 1 := by omega
            go_wp2
            refine wp_region_hd 10 (fun W' => Below wr.heap.size wr W') (by kernel_rfl) (by kernel_rfl) ((Below.refl _ _).drew) ?_
            simp only [List.take_succ_cons, List.take_zero, List.drop_succ_cons, List.drop_zero]
            iterate 10 (refine wpHd_val (v := ?_) (by rfl) (fun W hW => ?_) ?_; rotate_left; (· obtain ⟨hcW, hfW⟩ := bcell hW; go_simp; with_reducible rfl); simp only [Act.put, List.setIfInBounds_toArray, List.set_cons_zero, List.set_cons_succ])
            refine wpHd_nil ?_
            intro W2 hW2
            have hb3 := hb2.below hW2 l1
            have d1 := blk_at hb3 (i := m) (by omega)
            have g1 := hb3.frozen m
            have hset3 := blk_set hb3 m vs
            have hsv : (svIn (k + 1) j (svOut N k)).set m vs = svIn (k + 1) (j + 1) (svOut N k) := by
              show _ = sv1 (svIn (k + 1) j (svOut N k)) (k + 1) ((j + 2) * (k + 1))
              unfold sv1
              rw [hm, hvm, hvk, hvs]
            rw [hsv] at hset3
            rw [hvm] at d1
            have Hset3 := hid hset3
            have l3 := hb3.lt
            clear hset3 hsv hvm hvk
            go_wp2
            refine ⟨⟨j + 1, by rw [show j + 1 + 1 = j + 2 by omega, hm]; exact hmN, ?_, (hbw2.trans (hW2.mono hbw2.size)).setCell (by simp; omega) _, Hset3.out⟩, ?_⟩
            · rw [show j + 1 + 2 = j + 3 by omega, hm3]; go_num
            · simp only [intOf]; omega
          · have hmi : ¬ (m : Int) ≤ N := by omega
            have hdiv : N / (k + 1) - 1 = j := by
              have : N / (k + 1) = j + 1 := Nat.div_eq_of_lt_le hj (by rw [show j + 1 + 1 = j + 2 by omega, hm]; omega)
              omega
            have hb4 : Blk wr w1.heap.size 2 ((svOut N (k + 1)).flatMap cI).toArray := by
              have e : svOut N (k + 1) = svIn (k + 1) j (svOut N k) := by
                show svIn (k + 1) (N / (k + 1) - 1) (svOut N k) = _
                rw [hdiv]
              rw [e]; exact hb2
            go_wp2
            exact ⟨⟨k + 1, by omega, by go_num, hbw2, hb4⟩, by simp [intOf]; omega⟩
      · obtain rfl : k = N := by omega
        have hle : ¬ (k : Int) + 1 ≤ k := by omega
        have hlen : (svOut k k).length = k + 1 := svOut_len k k
        have c1 := blk_at hb (i := k) (by omega)
        have x3 : (k : Int) < k + 1 := by omega
        go_wp2
        refine bodyPost_ret (v := .tuple #[.int .i64 ((svOut k k).getD k 0), .int .i64 0]) (by first | (simp [results, Try.results41, go_sem]; done) | (simp [results, Try.results41, go_sem, *]; done) | (simp [results, Try.results41, go_sem, World.cell?_setCell_same', *]; done) | (simp [results, Try.results41, go_sem]; first | exact ⟨rfl, rfl⟩ | rfl)) rfl ⟨by rw [hv.out, hE.out]; rfl, hbw⟩
  · have he0 : ofE p a 60 ≠ 0 := by simpa using he
    have hv : Hid (countV p a = 0) := hid (if_neg he0)
    go_enter Try.func41, Try.ntmps41
    go_wp2_with (first | (go_at_call 86; refine (of_any p a 60 _).mono ?_; rintro e w1 ⟨rfl, hb1⟩))
    refine bodyPost_ret (v := .tuple #[.int .i64 0, .int .i64 (ofE p a 60)]) (by first | (simp [results, Try.results41, go_sem]; done) | (simp [results, Try.results41, go_sem, *]; done) | (simp [results, Try.results41, go_sem, World.cell?_setCell_same', *]; done) | (simp [results, Try.results41, go_sem]; first | exact ⟨rfl, rfl⟩ | rfl)) rfl ⟨by rw [hv.out], hb1⟩
end Go.Proofs.Ytolghmhodaphfaa
/- Walks: Enough, Few. -/
namespace Go.Proofs.Ytolghmhodaphfaa
open Go.RowKit
attribute [local go_sem] Oper.semAt_some
/-- The powers: k kinds of one weight each. -/
def powK (p : Int) (k : Nat) : List Kd := (List.range k).map fun i => ⟨(p + 1) ^ i, 1⟩
theorem powK_succ (p : Int) (k : Nat) : powK p (k + 1) = powK p k ++ [⟨(p + 1) ^ k, 1⟩] := by unfold powK; rw [List.range_succ, List.map_append]; rfl
theorem powK_len (p : Int) (k : Nat) : (powK p k).length = k := by simp [powK]
/-- How many powers are enough. -/
def enN (p a : Int) : Nat := ((List.range 8).find? fun k => decide (a ≤ sumOf (powK p k))).getD 7
theorem pow_sums : ((List.range 8).map fun k => sumOf (powK 1 k)) = [0, 1, 3, 7, 15, 31, 63, 127] ∧ ((List.range 8).map fun k => sumOf (powK 2 k)) = [0, 1, 4, 13, 40, 121, 364, 1093] := by decide +kernel
theorem pow_vals : ((List.range 8).map fun k => (2 : Int) ^ k) = [1, 2, 4, 8, 16, 32, 64, 128] ∧ ((List.range 8).map fun k => (3 : Int) ^ k) = [1, 3, 9, 27, 81, 243, 729, 2187] := by decide +kernel
theorem pow_small {p : Int} (hp : p = 1 ∨ p = 2) : ∀ k, k < 8 → 1 ≤ (p + 1) ^ k ∧ (p + 1) ^ k ≤ 2187 := by
  rcases hp with rfl | rfl <;> decide +kernel
theorem powK_small {p : Int} (hp : p = 1 ∨ p = 2) {k : Nat} (hk : k ≤ 8) : ∀ x ∈ powK p k, smallK x := by
  intro x hx
  obtain ⟨i, hi, rfl⟩ := List.mem_map.1 hx
  have := pow_small hp i (by have := List.mem_range.1 hi; omega)
  exact ⟨by show 0 ≤ (p + 1) ^ i; omega, by show (p + 1) ^ i ≤ 1000000; omega, by show (0 : Int) ≤ 1; omega, by show (1 : Int) ≤ 1000000; omega⟩
theorem pow_seven {p : Int} (hp : p = 1 ∨ p = 2) : 121 ≤ sumOf (powK p 7) := by
  rcases hp with rfl | rfl <;> decide +kernel
theorem enN_at {p a : Int} {k : Nat} (hk : k ≤ 7) (h : a ≤ sumOf (powK p k)) (hb : ∀ j, j < k → ¬ a ≤ sumOf (powK p j)) : enN p a = k := by
  unfold enN
  have : (List.range 8).find? (fun k => decide (a ≤ sumOf (powK p k))) = some k := by
    rw [List.find?_range_eq_some]
    exact ⟨decide_eq_true h, List.mem_range.2 (by omega), fun j hj => by simp [hb j hj]⟩
  rw [this]; rfl
def enL (p a : Int) : List Kd := if ofE p a 121 = 0 then powK p (enN p a) else []
theorem info61 : (Try.prog.info? 61).map (fun i => (i.zero, i.size, i.bytes)) = some (some (.agg #[.int .i64 0, .int .i64 0]), 2, 16) := by kernel_rfl
theorem under22 : Try.prog.underlying 22 = some (.slice 61) := by kernel_rfl
theorem one_cK (k : Kd) : ∀ u ∈ cK k, u.oneCell' = true := by
  intro u hu
  simp only [cK, List.mem_cons, List.not_mem_nil, or_false] at hu
  rcases hu with rfl | rfl <;> rfl
set_option maxRecDepth 100000 in
set_option maxHeartbeats 2000000 in
theorem enough_any (p a : Int) (w : World) : Calls Try.prog 47 #[.int .i64 p, .int .i64 a] w fun e w' => ∃ v, e = .returned (.tuple #[v, .int .i64 (ofE p a 121)]) ∧ w'.ownsRow w.heap.size 61 2 v (enL p a).length ((enL p a).flatMap cK) ∧ Below w.heap.size w w' := by
  obtain ⟨i0, hi0, hi1, hi2, hi3⟩ := info_parts' info61
  have I0 := hid hi0; have I1 := hid hi1; have I2 := hid hi2; have I3 := hid hi3
  clear hi0 hi1 hi2 hi3
  cases he : (ofE p a 121 != 0)
  · have he0 : ofE p a 121 = 0 := by simpa using he
    obtain ⟨hp, ha1, ha2⟩ := ofE_zero he0
    have hE := hid he0
    have HP := hid hp
    have hL : Hid (∀ k, k ≤ 7 → a ≤ sumOf (powK p k) → (∀ j, j < k → ¬ a ≤ sumOf (powK p j)) → enL p a = powK p k) := hid (fun k h1 h2 h3 => by unfold enL; rw [if_pos he0, enN_at h1 h2 h3])
    have h7 := hid (pow_seven hp)
    have hp2 : IntKind.i64.wrap (p + 1) = p + 1 := wrap_ok (by rcases hp with rfl | rfl <;> omega)
    have hp3 : 2 ≤ p + 1 ∧ p + 1 ≤ 3 := by rcases hp with rfl | rfl <;> omega
    obtain ⟨hp4, hp5⟩ := hp3
    clear he he0 hp
    go_enter Try.func47, Try.ntmps47
    go_wp2_with (first | (go_at_call 86; refine (of_any p a 121 _).mono ?_; rw [hE.out]; rintro e w1 ⟨rfl, hb1⟩; have hz1 := hb1.size))
    go_loopw [7, 8] (fun v x wr => ∃ k : Nat, k ≤ 7 ∧ x = .int .i64 ((p + 1) ^ k) ∧ Below w.heap.size w wr ∧ Hid (∀ j, j < k → ¬ a ≤ sumOf (powK p j)) ∧ ∃ A c, v = .slice A k c ∧ Hid (wr.ownsRow w.heap.size 61 2 v k ((powK p k).flatMap cK))) (fun _ x _ => 3000 - (intOf x).toNat)
    case atStart => exact ⟨0, by omega, by simp, hb1, hid (fun j hj => by omega), none, 0, rfl, hid (World.ownsRow_nil _ _ _ _)⟩
    case round =>
      obtain ⟨k, hk, rfl, hbw, hbef, A, c, rfl, hown⟩ := hrel
      have hszw := hbw.size
      have hks : KdS wr wr.heap.size A k (powK p k) := Sl.of_own hown.out
      have hsm := hid (powK_small HP.out (k := k) (by omega))
      have Hks := hid hks
      obtain ⟨S, hS⟩ : ∃ S, sumOf (powK p k) = S := ⟨_, rfl⟩
      have HS := hid hS
      by_cases hlt : S < a
      · have hk6 : k < 7 := by
          rcases Nat.lt_or_ge k 7 with h | h
          · exact h
          · exfalso
            obtain rfl : k = 7 := by omega
            have := h7.out
            omega
        have hpk := pow_small HP.out k (by omega)
        have hpk1 := pow_small HP.out (k + 1) (by omega)
        have hpe : (p + 1) ^ k * (p + 1) = (p + 1) ^ (k + 1) := by rw [Int.pow_succ]
        obtain ⟨q, hq⟩ : ∃ q, (p + 1) ^ k = q := ⟨_, rfl⟩
        obtain ⟨q1, hq1⟩ : ∃ q1, (p + 1) ^ (k + 1) = q1 := ⟨_, rfl⟩
        have Hq := hid hq
        have Hq1 := hid hq1
        rw [hq, hq1] at hpe
        rw [hq] at hpk
        rw [hq1] at hpk1
        have hql : q < q1 := by
          have : q * 2 ≤ q * (p + 1) := Int.mul_le_mul_of_nonneg_left hp4 (by omega)
          omega
        have zq : IntKind.i64.wrap (q * (p + 1)) = q1 := by rw [hpe]; exact wrap_ok (by omega)
        rw [hq]
        clear hks hS hq hq1 hpe
        go_wp2_with (first | (go_at_call 75; refine (sum_any _ A k c (powK p k) Hks.out (by omega) hsm.out).mono ?_; rw [HS.out]; rintro e w2 ⟨rfl, hb2⟩; have hz2 := hb2.size; have hown2 := hid (owns_below hown.out hb2)) | (at_builtin; refine wpList_append_own _ rfl _ _ 22 rfl w.heap.size 61 i0 _ 2 16 under22 I0.out I1.out I2.out I3.out rfl (by decide) _ k _ rfl (hown2.out.alloc (.cells #[.int .i64 q, .int .i64 1] 61)) ⟨w2.heap.size, 0, none⟩ 1 1 (cK ⟨q, 1⟩) rfl rfl (fun j u hj => World.news_of_block (Blk.new' rfl) j u hj) (one_cK _) (by unfold maxLen; omega) (by omega) (by simp; omega) ?_; intro v3 w3 ho3 hg3 hn3; obtain ⟨g3, c3, hv3, -, -⟩ := World.ownsRow.form ho3 (Nat.succ_pos _); subst hv3))
        have hbw2 : Below w.heap.size w w2 := hbw.trans (hb2.mono hszw)
        have hb3 : Below w.heap.size w w3 := (hbw2.alloc hbw2.size _).grown hg3 (by have := hbw2.size; simp; omega) (fun r hr => (World.ownsRow.lt hown2.out r hr).1)
        refine ⟨⟨k + 1, by omega, ?_, hb3, hid (fun j hj => ?_), some ⟨g3, 0, none⟩, c3, rfl, hid ?_⟩, by simp [intOf]; omega⟩
        · rw [← Hq1.out]
        · rcases Nat.lt_or_ge j k with h | h
          · have := hbef.out j h; omega
          · obtain rfl : j = k := by omega
            rw [HS.out]; omega
        · rw [powK_succ, Hq.out, List.flatMap_append]
          exact ho3
      · go_wp2_with (first | (go_at_call 75; refine (sum_any _ A k c (powK p k) Hks.out (by omega) hsm.out).mono ?_; rw [HS.out]; rintro e w2 ⟨rfl, hb2⟩; have hz2 := hb2.size; have hown2 := hid (owns_below hown.out hb2)))
        have hfin := hL.out k hk (by rw [HS.out]; omega) hbef.out
        refine bodyPost_ret (v := .tuple #[.slice A k c, .int .i64 0]) (by first | (simp [results, Try.results47, go_sem]; done) | (simp [results, Try.results47, go_sem, *]; done) | (simp [results, Try.results47, go_sem, World.cell?_setCell_same', *]; done) | (simp [results, Try.results47, go_sem]; first | exact ⟨rfl, rfl⟩ | rfl)) rfl ⟨_, by rw [hE.out], ?_, hbw.trans (hb2.mono hszw)⟩
        rw [hfin, powK_len]
        exact hown2.out
  · have he0 : ofE p a 121 ≠ 0 := by simpa using he
    have hv : Hid (enL p a = []) := hid (if_neg he0)
    go_enter Try.func47, Try.ntmps47
    go_wp2_with (first | (go_at_call 86; refine (of_any p a 121 _).mono ?_; rintro e w1 ⟨rfl, hb1⟩))
    refine bodyPost_ret (v := .tuple #[.slice none 0 0, .int .i64 (ofE p a 121)]) (by first | (simp [results, Try.results47, go_sem]; done) | (simp [results, Try.results47, go_sem, *]; done) | (simp [results, Try.results47, go_sem, World.cell?_setCell_same', *]; done) | (simp [results, Try.results47, go_sem]; first | exact ⟨rfl, rfl⟩ | rfl)) rfl ⟨_, rfl, by rw [hv.out]; exact World.ownsRow_nil _ _ _ _, hb1⟩
theorem fewW_any (p a : Int) (w : World) : Calls Try.prog 45 #[.int .i64 p, .int .i64 a] w fun e w' => e = .returned (.tuple #[.int .i64 (enL p a).length, .int .i64 (ofE p a 121)]) ∧ Below w.heap.size w w' := by
  go_enter Try.func45, Try.ntmps45
  go_wp2_with (first | (go_at_call 47; refine (enough_any p a _).mono ?_; rintro e w1 ⟨v, rfl, ho, hb1⟩; obtain ⟨A, c, hv, -⟩ := sl_of_owns ho; subst hv; clear ho))
  refine bodyPost_ret (v := .tuple #[.int .i64 (enL p a).length, .int .i64 (ofE p a 121)]) (by first | (simp [results, Try.results45, go_sem]; done) | (simp [results, Try.results45, go_sem, *]; done) | (simp [results, Try.results45, go_sem, World.cell?_setCell_same', *]; done) | (simp [results, Try.results45, go_sem]; first | exact ⟨rfl, rfl⟩ | rfl)) rfl ⟨rfl, hb1⟩
end Go.Proofs.Ytolghmhodaphfaa
/- Walks: sets of numbers, the examples, lists of sets. -/
namespace Go.Proofs.Ytolghmhodaphfaa
open Go.RowKit
attribute [local go_sem] Oper.semAt_some
/-- The first k kinds of a list of numbers, two for each. -/
def pk (l : List Int) (k : Nat) : List Kd := (List.range k).map fun j => ⟨l.getD (2 * j) 0, l.getD (2 * j + 1) 0⟩
def pairK (l : List Int) : List Kd := pk l (l.length / 2)
theorem pk_succ (l : List Int) (k : Nat) : pk l (k + 1) = pk l k ++ [⟨l.getD (2 * k) 0, l.getD (2 * k + 1) 0⟩] := by unfold pk; rw [List.range_succ, List.map_append]; rfl
theorem pk_len (l : List Int) (k : Nat) : (pk l k).length = k := by simp [pk]
theorem hSb (w : World) : ∀ W W', Below w.heap.size w W → Ext W W' → Below w.heap.size w W' := fun _ _ h he => h.trans (he.mono h.size)
set_option maxRecDepth 100000 in
set_option maxHeartbeats 2000000 in
theorem set_any (A : Option Addr) (n c : Nat) (l : List Int) (w : World) (hl : InS w w.heap.size A n l) (hn : n ≤ 100) :
    Calls Try.prog 63 #[.slice A n c] w fun e w' => ∃ v, e = .returned v ∧ w'.ownsRow w.heap.size 61 2 v (pairK l).length ((pairK l).flatMap cK) ∧ Below w.heap.size w w' := by
  obtain ⟨i0, hi0, hi1, hi2, hi3⟩ := info_parts' info61
  have I0 := hid hi0; have I1 := hid hi1; have I2 := hid hi2; have I3 := hid hi3
  clear hi0 hi1 hi2 hi3
  have hlen := hid hl.len
  go_enter Try.func63, Try.ntmps63
  go_wp2
  go_loopw [3, 4] (fun v x wr => ∃ k : Nat, 2 * k ≤ n ∧ x = .int .i64 (2 * (k : Int)) ∧ Below w.heap.size w wr ∧ Hid (wr.ownsRow w.heap.size 61 2 v k ((pk l k).flatMap cK))) (fun _ x _ => n - (intOf x).toNat)
  case atStart => exact ⟨0, by omega, by simp, Below.refl _ _, hid (World.ownsRow_nil _ _ _ _)⟩
  case round =>
    obtain ⟨k, hk, rfl, hbw, hown⟩ := hrel
    have hszw := hbw.size
    have z1 : IntKind.i64.wrap (2 * (k : Int) + 1) = 2 * (k : Int) + 1 := wrap_ok (by omega)
    have z2 : IntKind.i64.wrap (2 * (k : Int) + 2) = 2 * (k : Int) + 2 := wrap_ok (by omega)
    by_cases hlt : 2 * k + 1 < n
    · obtain ⟨b, off, x, rfl, hb, hm, c0⟩ := hl.at_ (k := 2 * k) (by omega)
      obtain ⟨b', off', y, hbe, -, hm2, c1⟩ := hl.at_ (k := 2 * k + 1) hlt
      cases hbe
      have hx : l.getD (2 * k) 0 = x := by rw [List.getD_eq_getElem?_getD, hm]; rfl
      have hy : l.getD (2 * k + 1) 0 = y := by rw [List.getD_eq_getElem?_getD, hm2]; rfl
      have HX := hid hx
      have HY := hid hy
      have x1 : 2 * (k : Int) + 1 < n := by omega
      have x2 : 2 * (k : Int) < n := by omega
      have x3 : 0 ≤ 2 * (k : Int) + 1 := by omega
      have x4 : 0 ≤ 2 * (k : Int) := by omega
      have t1 : (2 * (k : Int)).toNat = 2 * k := by omega
      have t2 : (2 * (k : Int) + 1).toNat = 2 * k + 1 := by omega
      clear hm hm2 hx hy
      go_wp2
      refine Sx.wp_region_el (fun W => Below w.heap.size w W) (hSb w) [0, 1, 2, 3, 4, 5, 6, 7, 8, 9, 10] 3 (by kernel_rfl) (by kernel_rfl) (hSb w _ _ hbw (Below.refl _ _).drew) ?_
      have hown1 := hid (owns_below hown.out (Below.refl _ _).drew)
      simp only [pick, List.getElem?_toArray, List.getElem?_cons_zero, List.getElem?_cons_succ]
      iterate 11 (refine Sx.wpE_val (v := ?_) (by rfl) (fun W hW => ?_) ?_; rotate_left; (· have q0 := ((bcell hW).1 b (off + 2 * k) hb).trans c0; have q1 := ((bcell hW).1 b (off + (2 * k + 1)) hb).trans c1; have lb : b < W.heap.size := Nat.lt_of_lt_of_le hb hW.size; go_simp; with_reducible rfl); simp only [Act.put, List.setIfInBounds_toArray, List.set_cons_zero, List.set_cons_succ])
      simp only [Sx.wpE]
      (refine Sx.wpM_one 11 _ (by simp only [List.getElem?_toArray, List.getElem?_cons_zero, List.getElem?_cons_succ]; rfl) (by kernel_rfl) (by rfl) ?_)
      intro X1 hX1 hS1
      have hown2 := hid (owns_below hown1.out hX1)
      (go_simp; simp only [LUpon, Act.put]; try simp only [List.setIfInBounds_toArray, List.set_cons_zero, List.set_cons_succ])
      refine ⟨hS1.alloc hS1.size _, ?_⟩
      have b9 : Blk (X1.alloc (.cells #[.int .i64 x, .int .i64 y] 61)) X1.heap.size 61 #[.int .i64 x, .int .i64 y] := Blk.new _ _ _
      have hown3 := hid (hown2.out.alloc (.cells #[.int .i64 x, .int .i64 y] 61))
      have hzz : w.heap.size ≤ X1.heap.size := hS1.size
      generalize hB9 : X1.heap.size = B9 at *
      generalize X1.alloc (.cells #[.int .i64 x, .int .i64 y] 61) = X1b at *
      (refine Sx.wpM_one 12 _ (by simp only [List.getElem?_toArray, List.getElem?_cons_zero, List.getElem?_cons_succ]; rfl) (by kernel_rfl) (by rfl) ?_)
      intro X2 hX2 hS2
      have b10 := b9.below hX2 b9.lt
      refine lupon_append_own _ _ _ 22 rfl w.heap.size 61 i0 _ 2 16 under22 I0.out I1.out I2.out I3.out rfl (by decide) _ k _ (by rfl) (owns_below hown3.out hX2) ⟨B9, 0, none⟩ 1 1 (cK ⟨x, y⟩) (by rfl) rfl (fun j u hj => World.news_of_block b10 j u hj) (one_cK _) (by unfold maxLen; omega) (by omega) hS2.size ?_
      intro v3 w3 ho3 hg3
      refine ⟨hS2.grown hg3 hS2.size (fun r hr => (World.ownsRow.lt (owns_below hown3.out hX2) r hr).1), ?_⟩
      simp only [Act.put, List.setIfInBounds_toArray, List.set_cons_zero, List.set_cons_succ]
      (refine Sx.wpM_one 13 _ (by simp only [List.getElem?_toArray, List.getElem?_cons_zero, List.getElem?_cons_succ]; rfl) (by kernel_rfl) (by rfl) ?_)
      intro X4 hX4 hS4
      have ho4 := hid (owns_below ho3 hX4)
      (go_simp; simp only [LUpon, Act.put]; try simp only [List.setIfInBounds_toArray, List.set_cons_zero, List.set_cons_succ])
      refine ⟨hS4, ?_⟩
      refine Sx.wpM_end (by kernel_rfl) ?_
      intro X5 hX5 hS5
      have ho5 := hid (owns_below ho4.out hX5)
      clear ho3 hown1 hown2 hown3 ho4 b9 b10
      go_wp2
      refine ⟨⟨k + 1, by omega, by go_num, hS5, hid ?_⟩, by simp [intOf]; omega⟩
      rw [pk_succ, HX.out, HY.out, List.flatMap_append]
      exact ho5.out
    · have x1 : ¬ 2 * (k : Int) + 1 < n := by omega
      go_wp2
      go_ret
      refine ⟨_, rfl, ?_, hbw⟩
      have e : pairK l = pk l k := by unfold pairK; rw [hlen.out]; congr 1; omega
      rw [e, pk_len]
      exact hown.out
end Go.Proofs.Ytolghmhodaphfaa
/- Walks: the examples' sets, a list, two lists of sets that are the same. -/
namespace Go.Proofs.Ytolghmhodaphfaa
open Go.RowKit
attribute [local go_sem] Oper.semAt_some
def kE : List Kd := [⟨1, 1⟩, ⟨3, 1⟩, ⟨9, 1⟩]
def dE : List Kd := [⟨1, 1⟩, ⟨2, 2⟩]
def eE : List Kd := [⟨2, 1⟩, ⟨3, 1⟩]
/-- A call hands back a set of its own. -/
def SetPost (l : List Kd) (w : World) (e : Ending) (w' : World) : Prop := ∃ v, e = .returned v ∧ w'.ownsRow w.heap.size 61 2 v l.length (l.flatMap cK) ∧ Below w.heap.size w w'
theorem lit_ins (w : World) (l : List Int) : InS (w.alloc (.cells (l.flatMap cI).toArray 2)) (w.alloc (.cells (l.flatMap cI).toArray 2)).heap.size (some ⟨w.heap.size, 0, none⟩) l.length l := ins_blk (Blk.new _ _ _) (by simp)
theorem k_any (w : World) : Calls Try.prog 60 #[] w (SetPost kE w) := by
  go_enter Try.func60, Try.ntmps60
  go_wp2_with (first | (go_at_call 63; refine (set_any _ 6 6 [1, 1, 3, 1, 9, 1] _ (lit_ins w [1, 1, 3, 1, 9, 1]) (by omega)).mono ?_; rintro e w1 ⟨v, rfl, ho, hb1⟩; have ho' := hid ho; clear ho))
  go_ret
  exact ⟨v, rfl, owns_mono ho'.out (by simp), Below.trans ((Below.refl _ _).alloc (Nat.le_refl _) _) (hb1.mono (by simp))⟩
theorem d_any (w : World) : Calls Try.prog 61 #[] w (SetPost dE w) := by
  go_enter Try.func61, Try.ntmps61
  go_wp2_with (first | (go_at_call 63; refine (set_any _ 4 4 [1, 1, 2, 2] _ (lit_ins w [1, 1, 2, 2]) (by omega)).mono ?_; rintro e w1 ⟨v, rfl, ho, hb1⟩; have ho' := hid ho; clear ho))
  go_ret
  exact ⟨v, rfl, owns_mono ho'.out (by simp), Below.trans ((Below.refl _ _).alloc (Nat.le_refl _) _) (hb1.mono (by simp))⟩
theorem e_any (w : World) : Calls Try.prog 59 #[] w (SetPost eE w) := by
  go_enter Try.func59, Try.ntmps59
  go_wp2_with (first | (go_at_call 63; refine (set_any _ 4 4 [2, 1, 3, 1] _ (lit_ins w [2, 1, 3, 1]) (by omega)).mono ?_; rintro e w1 ⟨v, rfl, ho, hb1⟩; have ho' := hid ho; clear ho))
  go_ret
  exact ⟨v, rfl, owns_mono ho'.out (by simp), Below.trans ((Below.refl _ _).alloc (Nat.le_refl _) _) (hb1.mono (by simp))⟩
theorem longsF_any (v : Value) (w : World) : Calls Try.prog 62 #[v] w fun e w' => e = .returned v ∧ w = w' := by
  go_enter Try.func62, Try.ntmps62
  go_wp2
  go_ret
  exact ⟨rfl, rfl⟩
/-- A list of sets in the memory. -/
def LsS (w : World) (B : Nat) (A : Option Addr) (n : Nat) (ls : List (List Kd)) : Prop :=
  ls.length = n ∧ ∃ vs : List Value, Sl w B 1 A n vs ∧ ∀ (k : Nat) (l : List Kd), ls[k]? = some l → ∃ (A' : Option Addr) (m c' : Nat), vs[k]? = some (Value.slice A' m c') ∧ KdS w B A' m l
theorem LsS.below {w w' : World} {B B' n : Nat} {A : Option Addr} {ls : List (List Kd)} (h : LsS w B A n ls) (hb : Below B w w') (hB : B ≤ B') : LsS w' B' A n ls := by
  obtain ⟨h1, vs, h2, h3⟩ := h
  exact ⟨h1, vs, h2.below' hb hB, fun k l hk => by obtain ⟨A', m, c', e, h4⟩ := h3 k l hk; exact ⟨A', m, c', e, h4.below hb hB⟩⟩
theorem LsS.at_ {w : World} {B n : Nat} {A : Option Addr} {ls : List (List Kd)} (h : LsS w B A n ls) {k : Nat} (hk : k < n) : ∃ b off l A' m c', A = some ⟨b, off, none⟩ ∧ b < B ∧ ls[k]? = some l ∧ w.cell? ⟨b, off + k, none⟩ = some (.slice A' m c') ∧ KdS w B A' m l := by
  obtain ⟨h1, vs, h2, h3⟩ := h
  have hl : ls[k]? = some ls[k] := List.getElem?_eq_getElem (by omega)
  obtain ⟨A', m, c', e, h4⟩ := h3 k _ hl
  obtain ⟨b, off, hA, hb, hc⟩ := h2.2 (by omega)
  exact ⟨b, off, _, A', m, c', hA, hb, hl, hc k _ e, h4⟩
theorem eqKs_self (l : List Kd) : eqKs l l = true := eqKs_t.2 rfl
set_option maxRecDepth 100000 in
set_option maxHeartbeats 1000000 in
theorem sets_true (w : World) (A B : Option Addr) (n c d : Nat) (ls : List (List Kd)) (ha : LsS w w.heap.size A n ls) (hb : LsS w w.heap.size B n ls) (hn : n ≤ 100000) (hm : ∀ l ∈ ls, l.length ≤ 100) :
    Calls Try.prog 49 #[.slice A n c, .slice B n d] w fun e w' => e = .returned (.bool true) ∧ Below w.heap.size w w' := by
  have hm' := hid hm
  clear hm
  have t0 : ((n : Int) != (n : Int)) = false := by simp
  go_enter Try.func49, Try.ntmps49
  go_wp2
  go_loopw [5] (fun i wr => ∃ k : Nat, k ≤ n ∧ i = .int .i64 k ∧ Below w.heap.size w wr) (fun i _ => n - (intOf i).toNat)
  case atStart => exact ⟨0, by omega, rfl, Below.refl _ _⟩
  case round =>
    obtain ⟨k, hk, rfl, hbw⟩ := hrel
    by_cases hlt : k < n
    · obtain ⟨b1, o1, l, A1, m1, d1, rfl, hb1, hl, c1, k1⟩ := (ha.below hbw hbw.size).at_ hlt
      obtain ⟨b2, o2, l', A2, m2, d2, rfl, hb2, hl', c2, k2⟩ := (hb.below hbw hbw.size).at_ hlt
      obtain rfl : l' = l := by rw [hl] at hl'; exact (Option.some.inj hl').symm
      have hml := hm'.out l' (List.mem_of_getElem? hl)
      have h1 := k1.len
      have h2 := k2.len
      have K1 := hid k1
      have K2 := hid k2
      have hlti : (k : Int) < n := by omega
      clear hl hl' k1 k2
      go_wp2
      refine wp_region_hd_all (fun W' => Below wr.heap.size wr W') (by kernel_rfl) (by kernel_rfl) ((Below.refl _ _).drew) ?_
      iterate 8 (refine wpHd_val (v := ?_) (by rfl) (fun W hW => ?_) ?_; rotate_left; (· obtain ⟨hcW, hfW⟩ := bcell hW; go_simp; with_reducible rfl); simp only [Act.put, List.setIfInBounds_toArray, List.set_cons_zero, List.set_cons_succ])
      (refine wpHd_callB (by rfl) (fun W hW => same_any W A1 A2 m1 d1 m2 d2 l' l' (K1.out.below hW hW.size) (K2.out.below hW hW.size) (by omega)) (fun W hW => ?_) ?_; (· obtain ⟨hcW, hfW⟩ := bcell hW; go_simp); simp only [Act.put, List.setIfInBounds_toArray, List.set_cons_zero, List.set_cons_succ])
      (refine wpHd_val (v := ?_) (by rfl) (fun W hW => ?_) ?_; rotate_left; (· obtain ⟨hcW, hfW⟩ := bcell hW; go_simp; with_reducible rfl); simp only [Act.put, List.setIfInBounds_toArray, List.set_cons_zero, List.set_cons_succ])
      refine wpHd_nil ?_
      intro W2 hW2
      rw [eqKs_self]
      go_wp2
      exact ⟨⟨k + 1, by omega, by go_num, hbw.trans (hW2.mono hbw.size)⟩, by simp [intOf]; omega⟩
    · obtain rfl : k = n := by omega
      go_wp2
      go_ret
      exact ⟨rfl, hbw⟩
end Go.Proofs.Ytolghmhodaphfaa
