/- Texts of the proof, laid together by program. -/
import Derived.Test.YtiobmfggnacplaaMi
set_option linter.unusedSimpArgs false
set_option linter.unusedVariables false
/- Walks: the law's fine and Given. -/
namespace Go.Proofs.Ytiobmfggnacplaa
open Go.RowKit
attribute [local go_sem] Oper.semAt_some
def fineB (K : Int) (l : List Int) : Bool := !(decide (80 < l.length)) && decide (checkRim K l = 0)
set_option maxRecDepth 10000 in
set_option maxHeartbeats 4000000 in
theorem fine_any (K : Int) (A : Option Addr) (n c : Nat) (l : List Int) (w : World) (hl : InS w w.heap.size A n l) (hn : n ≤ 1000000) :
    Calls Try.prog 47 #[.int .i64 K, .slice A n c] w fun e w' => e = .returned (.bool (fineB K l)) ∧ Below w.heap.size w w' := by
  have HL := hid hl
  have hlen := hid hl.len
  clear hl
  by_cases h80 : 80 < n
  · have hg : Hid (decide (80 < n) = true) := hid (decide_eq_true h80)
    have hf : Hid (fineB K l = false) := hid (by unfold fineB; rw [hlen.out, decide_eq_true h80]; rfl)
    clear h80
    go_enter Try.func47, Try.ntmps47
    go_wp2_with (go_at_call 17; refine (great_any A n c _).mono ?_; rw [hg.out]; rintro e W1 ⟨rfl, hb⟩)
    refine bodyPost_ret (v := .bool false) (by first | (simp [results, Try.results47, go_sem]; done) | (simp [results, Try.results47, go_sem, *]; done) | (simp [results, Try.results47, go_sem, World.cell?_setCell_same', *]; done) | (simp [results, Try.results47, go_sem]; first | exact ⟨rfl, rfl⟩ | rfl)) rfl ⟨by rw [hf.out], hb⟩
  · have hg : Hid (decide (80 < n) = false) := hid (decide_eq_false h80)
    obtain ⟨E, hE⟩ : ∃ E, checkRim K l = E := ⟨_, rfl⟩
    have HE := hid hE
    have hf : Hid (fineB K l = (E == 0)) := hid (by unfold fineB; rw [hlen.out, decide_eq_false h80, hE]; simp; by_cases h : E = 0 <;> simp [h])
    clear h80 hE
    go_enter Try.func47, Try.ntmps47
    go_wp2_with (fail)
    refine (great_any A n c _).mono ?_
    rw [hg.out]
    rintro e W1 ⟨rfl, hb⟩
    go_wp2_with (go_at_call 26; refine (refCheckRim_any K A n c l _ (HL.out.below hb hb.size) hn).mono ?_; rw [HE.out]; rintro e W2 ⟨rfl, rfl⟩)
    refine bodyPost_ret (v := .bool (E == 0)) (by first | (simp [results, Try.results47, go_sem]; done) | (simp [results, Try.results47, go_sem, *]; done) | (simp [results, Try.results47, go_sem, World.cell?_setCell_same', *]; done) | (simp [results, Try.results47, go_sem]; first | exact ⟨rfl, rfl⟩ | rfl)) rfl ⟨by rw [hf.out], hb⟩
end Go.Proofs.Ytiobmfggnacplaa
/- Walks: the law's Given. -/
namespace Go.Proofs.Ytiobmfggnacplaa
open Go.RowKit
attribute [local go_sem] Oper.semAt_some
/-- A row of small numbers in memory. -/
def U8S (w : World) (B : Nat) (A : Option Addr) (n : Nat) (l : List Nat) : Prop := Sl w B 1 A n (l.map fun x : Nat => Value.int .u8 (x : Int))
theorem U8S.below {w w' : World} {B B' n : Nat} {A : Option Addr} {l : List Nat} (h : U8S w B A n l) (hb : Below B w w') (hB : B ≤ B') : U8S w' B' A n l := Sl.below' h hb hB
theorem U8S.len {w : World} {B n : Nat} {A : Option Addr} {l : List Nat} (h : U8S w B A n l) : l.length = n := by have := h.1; simpa using this
theorem U8S.at_ {w : World} {B n k : Nat} {A : Option Addr} {l : List Nat} (h : U8S w B A n l) (hk : k < n) : ∃ b off y, A = some ⟨b, off, none⟩ ∧ b < B ∧ l[k]? = some y ∧ w.cell? ⟨b, off + k, none⟩ = some (.int .u8 (y : Int)) := by
  obtain ⟨b, off, hA, hb, hc⟩ := h.2 (by omega)
  have hl : k < l.length := by rw [h.len]; exact hk
  refine ⟨b, off, l[k], hA, hb, List.getElem?_eq_getElem hl, hc k _ ?_⟩
  rw [List.getElem?_map, List.getElem?_eq_getElem hl]; rfl
/-- A rim out of bytes. -/
def givT (K : Nat) (by_ : List Nat) (i : Nat) : Nat := if by_ = [] then 0 else by_.getD (i % by_.length) 0 % K
def givR (K t : Nat) (by_ : List Nat) : List Int := (List.range t).map fun i => (givT K by_ i : Int)
theorem givR_len (K t : Nat) (by_ : List Nat) : (givR K t by_).length = t := by simp [givR]
theorem givR_succ (K t : Nat) (by_ : List Nat) : (givR K (t + 1) by_).flatMap cI = (givR K t by_).flatMap cI ++ [.int .i64 (givT K by_ t : Int)] := by
  unfold givR
  rw [List.range_succ, List.map_append, List.flatMap_append]; rfl
set_option maxRecDepth 10000 in
set_option maxHeartbeats 4000000 in
theorem given_any (A : Option Addr) (n c K t : Nat) (l : List Nat) (w : World) (hl : U8S w w.heap.size A n l) (hn : n ≤ 1000) (hK1 : 1 ≤ K) (hK4 : K ≤ 4) (ht : t ≤ 100) (hb : ∀ x ∈ l, x < 256) :
    Calls Try.prog 53 #[.int .i64 (K : Int), .int .i64 (t : Int), .slice A n c] w fun e w' => ∃ v, e = .returned v ∧ w'.ownsRow w.heap.size 3 1 v t ((givR K t l).flatMap cI) ∧ Below w.heap.size w w' := by
  obtain ⟨i0, hi0, hi1, hi2, hi3⟩ := info_parts' info3
  have I0 := hid hi0; have I1 := hid hi1; have I2 := hid hi2; have I3 := hid hi3
  clear hi0 hi1 hi2 hi3
  have HL := hid hl
  have HB := hid hb
  have hlen := hid hl.len
  have hKi : (1 : Int) ≤ K := by omega
  have hK0 : ¬ (K : Int) = 0 := by omega
  clear hl hb
  go_enter Try.func53, Try.ntmps53
  go_wp2
  go_loopw [7, 8] (fun v i wr => ∃ k : Nat, k ≤ t ∧ i = .int .i64 k ∧ Below w.heap.size w wr ∧ Hid (wr.ownsRow w.heap.size 3 1 v k ((givR K k l).flatMap cI))) (fun _ i _ => t - (intOf i).toNat)
  case atStart => exact ⟨0, by omega, rfl, Below.refl _ _, hid (World.ownsRow_nil _ _ _ _)⟩
  case round =>
    obtain ⟨k, hk2, rfl, hbw, hown⟩ := hrel
    have hszw := hbw.size
    by_cases hlt : k < t
    · have hlti : (k : Int) < t := by omega
      have Hf := hid (givR_succ K k l)
      by_cases h0 : n = 0
      · subst h0
        have hx : Hid (givT K l k = 0) := hid (if_pos (List.eq_nil_of_length_eq_zero hlen.out))
        rw [hx.out] at Hf
        go_wp2_with (at_builtin; refine wpList_append_own _ rfl _ _ 22 rfl w.heap.size 3 i0 _ 1 8 under22 I0.out I1.out I2.out I3.out rfl (by decide) _ k _ rfl (hown.out.alloc (.cells #[.int .i64 0] 3)) ⟨wr.heap.size, 0, none⟩ 1 1 [.int .i64 0] rfl rfl (fun j u hj => World.news_of_block (Blk.new' (by simp)) j u hj) (one1 _) (by unfold maxLen; omega) (by omega) (by simp; omega) ?_; intro v' w3 ho3 hg3 hv3)
        have hb3 : Below w.heap.size w w3 := (hbw.alloc hszw _).grown hg3 (by simp; omega) (fun r hr => (World.ownsRow.lt hown.out r hr).1)
        exact ⟨⟨k + 1, by omega, by go_num, hb3, hid (by rw [Hf.out]; exact ho3)⟩, by simp [intOf]; omega⟩
      · have hni : (0 : Int) < n := by omega
        have hn0 : ¬ (n : Int) = 0 := by omega
        obtain ⟨jj, hjj⟩ : ∃ j, k % n = j := ⟨_, rfl⟩
        have hjl : jj < n := by rw [← hjj]; exact Nat.mod_lt _ (by omega)
        have hjli : (jj : Int) < n := by omega
        have hti : Int.tmod (k : Int) (n : Int) = (jj : Int) := by rw [← hjj]; exact (Int.ofNat_tmod k n).symm
        obtain ⟨b, off, y, rfl, hb1, hy, c0⟩ := (HL.out.below hbw hszw).at_ hjl
        have hy2 := HB.out y (List.mem_of_getElem? hy)
        obtain ⟨x, hx⟩ : ∃ x, y % K = x := ⟨_, rfl⟩
        have hxl : x < K := by rw [← hx]; exact Nat.mod_lt _ (by omega)
        have htx : Int.tmod (y : Int) (K : Int) = (x : Int) := by rw [← hx]; exact (Int.ofNat_tmod y K).symm
        have z0 : IntKind.i64.wrap (y : Int) = (y : Int) := IntWalk.i64_in _ (by omega)
        have hv : Hid (givT K l k = x) := hid (by
          unfold givT
          rw [if_neg (fun e => by rw [e] at hy; simp at hy), hlen.out, hjj, List.getD_eq_getElem?_getD, hy]
          exact hx)
        rw [hv.out] at Hf
        clear hjj hy hx
        go_wp2_with (at_builtin; refine wpList_append_own _ rfl _ _ 22 rfl w.heap.size 3 i0 _ 1 8 under22 I0.out I1.out I2.out I3.out rfl (by decide) _ k _ rfl (hown.out.alloc (.cells #[.int .i64 (x : Int)] 3)) ⟨wr.heap.size, 0, none⟩ 1 1 [.int .i64 (x : Int)] rfl rfl (fun j u hj => World.news_of_block (Blk.new' (by simp)) j u hj) (one1 _) (by unfold maxLen; omega) (by omega) (by simp; omega) ?_; intro v' w3 ho3 hg3 hv3)
        have hb3 : Below w.heap.size w w3 := (hbw.alloc hszw _).grown hg3 (by simp; omega) (fun r hr => (World.ownsRow.lt hown.out r hr).1)
        exact ⟨⟨k + 1, by omega, by go_num, hb3, hid (by rw [Hf.out]; exact ho3)⟩, by simp [intOf]; omega⟩
    · obtain rfl : t = k := by omega
      go_wp2
      refine bodyPost_ret (v := u7) (by first | (simp [results, Try.results53, go_sem]; done) | (simp [results, Try.results53, go_sem, *]; done) | (simp [results, Try.results53, go_sem, World.cell?_setCell_same', *]; done) | (simp [results, Try.results53, go_sem]; first | exact ⟨rfl, rfl⟩ | rfl)) rfl ⟨u7, rfl, hown.out, hbw⟩
end Go.Proofs.Ytiobmfggnacplaa
/- The examples' numbers, by the kernel. -/
namespace Go.Proofs.Ytiobmfggnacplaa
open Go.RowKit
def rE : List Int := [1, 0, 1, 0, 0]
def sE : List Int := [0, 1, 0, 1]
set_option maxRecDepth 100000 in
theorem kA : checkRim 1 [1, 0, 1, 0, 0] = 3 ∧ checkRim 5 [1, 0, 1, 0, 0] = 2 ∧ turnE 2 [1, 0, 1, 0, 0] 3 = 0 ∧ turnV 2 [1, 0, 1, 0, 0] 3 = [0, 0, 1, 0, 1] ∧ turnE 2 [1, 0, 1, 0, 0] 5 = 3 ∧ leastV 2 [1, 0, 1, 0, 0] = [0, 0, 1, 0, 1] ∧ leastK 2 [1, 0, 1, 0, 0] = 3 ∧ checkRim 2 [1, 0, 1, 0, 0] = 0 ∧ perV 2 [0, 1, 0, 1] = 2 ∧ checkRim 2 [0, 1, 0, 1] = 0 := by decide +kernel
set_option maxRecDepth 100000 in
theorem kB : shV 2 [1, 0, 1, 0, 0] [0, 0, 1, 0, 1] = 3 ∧ shE 2 [1, 0, 1, 0, 0] [0, 0, 1, 0, 1] = 0 ∧ shE 2 [1, 0, 1, 0, 0] [0, 1, 0, 1] = 15 ∧ shV 2 [1, 0, 1, 0, 0] [0, 1, 0, 1] = 0 ∧ wordsV 2 [1, 0, 1, 0, 0] = [0, 1, 3, 4] ∧ cutE 2 [1, 0, 1, 0, 0] [0, 1, 3] = 14 ∧ cutE 2 [1, 0, 1, 0, 0] [1, 3] = 3 := by decide +kernel
set_option maxRecDepth 100000 in
theorem kC : countV 3 3 = 11 ∧ cntE 3 3 = 0 ∧ singV 2 5 = 6 ∧ cntE 2 5 = 0 ∧ singV 2 13 = 0 ∧ cntE 2 13 = 6 ∧ allE 2 3 = 0 ∧ allV 2 3 = [[0, 0, 0], [0, 0, 1], [0, 1, 1], [1, 1, 1]] ∧ allE 4 6 = 6 := by decide +kernel
set_option maxRecDepth 100000 in
theorem kD : rowE 2 3 = 0 ∧ rowV 2 3 = [0, 0, 0, 1, 0, 1, 1, 1] ∧ chkR 2 3 [1, 1, 1, 0, 0, 0, 1, 0] = 0 ∧ chkR 2 3 [0, 0, 0, 1, 1, 0, 1, 1] = 14 ∧ fdV 2 [1, 0, 1, 0, 0] [0, 0, 1] = 3 ∧ fdE 2 [1, 0, 1, 0, 0] [0, 0, 1] = 0 ∧ fdE 2 [1, 0, 1, 0, 0] [1, 1] = 5 ∧ fdV 2 [1, 0, 1, 0, 0] [1, 1] = 0 := by decide +kernel
theorem kE : eqI [0, 0, 1, 0, 1] [0, 0, 1, 0, 1] = true ∧ eqI [0, 1, 3, 4] [0, 1, 3, 4] = true ∧ eqI [0, 0, 0, 1, 0, 1, 1, 1] [0, 0, 0, 1, 0, 1, 1, 1] = true ∧ eqL [[0, 0, 0], [0, 0, 1], [0, 1, 1], [1, 1, 1]] [[0, 0, 0], [0, 0, 1], [0, 1, 1], [1, 1, 1]] = true := by decide +kernel
theorem lis_four {W : World} {B g : Nat} {A1 A2 A3 A4 : Option Addr} {n c1 c2 c3 c4 : Nat} {a b c d : List Int} (hb : Blk W g 22 #[.slice A1 n c1, .slice A2 n c2, .slice A3 n c3, .slice A4 n c4]) (hg : g < B) (h1 : InS W B A1 n a) (h2 : InS W B A2 n b) (h3 : InS W B A3 n c) (h4 : InS W B A4 n d) : LiS W B (some ⟨g, 0, none⟩) 4 [a, b, c, d] := by
  refine ⟨rfl, [.slice A1 n c1, .slice A2 n c2, .slice A3 n c3, .slice A4 n c4], ⟨rfl, fun _ => ⟨g, 0, rfl, hg, fun j u hu => ?_⟩⟩, fun k l hl => ?_⟩
  · rw [Nat.zero_add, hb.cell]; simpa using hu
  · match k, hl with
    | 0, hl => cases hl; exact ⟨_, _, _, rfl, h1⟩
    | 1, hl => cases hl; exact ⟨_, _, _, rfl, h2⟩
    | 2, hl => cases hl; exact ⟨_, _, _, rfl, h3⟩
    | 3, hl => cases hl; exact ⟨_, _, _, rfl, h4⟩
    | k + 4, hl => simp at hl
end Go.Proofs.Ytiobmfggnacplaa
