/- Texts of the proof, laid together by program. -/
import Derived.Test.YtolghmhodaphfaaMd
import Derived.OwnWalkIn
import Derived.Test.YtolghmhodaphfaaMa
import Derived.Laws.MakeOwn
/- An append to a slice without room, as one step: what comes lies in a new block. Over any program. -/
namespace Go.Proofs.Ytolghmhodaphfaa
open Go.RowKit
section
variable {P : Program} (w : World)
/-- A slice without room: what it reads as. -/
def Full (w : World) (v : Value) (n : Nat) (xs : List Value) : Prop := (n = 0 ∧ v = .slice none 0 0) ∨ ∃ b, v = .slice (some b) n n ∧ ∀ j u, xs[j]? = some u → w.cell? (b.add j) = some u
theorem run_append_cap (base : Nat) (t ty e : TypeId) (i : TypeInfo) (z : Value) (size bytes : Nat) (ht : P.underlying t = some (.slice e)) (hi : P.info? e = some i) (hz : i.zero = some z)
    (hsize : i.size = size) (hby : i.bytes = bytes) (hzs : z.cells.size = size)
    (v : Value) (n : Nat) (xs : List Value) (hxs : xs.length = n * size) (hown : Full w v n xs)
    (a : Addr) (m c : Nat) (news : List Value) (hl : news.length = m * size) (hnews : ∀ j u, news[j]? = some u → w.cell? (a.add j) = some u)
    (hm : 0 < m) (h63 : n + m ≤ maxLen) (hbytes : (n + m) * bytes ≤ 140737488355328) (hbase : base ≤ w.heap.size) :
    ∃ cap w', (Builtin.append_ #[t, t] ty #[v, .slice (some a) m c]).run P w = .ok (.slice (some ⟨w.heap.size, 0, none⟩) (n + m) cap) w' ∧ w'.ownsRow base e size (.slice (some ⟨w.heap.size, 0, none⟩) (n + m) cap) (n + m) (xs ++ news) ∧ w.grownBy w' none ∧ w.heap.size < w'.heap.size := by
  subst hsize
  subst hby
  have hsmall : n + m ≤ 9223372036854775807 := by simp only [maxLen] at h63; omega
  have hlen : (xs ++ news).length = (n + m) * i.size := by rw [List.length_append, hxs, hl, Nat.add_mul]
  have grown : ∀ (old : Nat),
      (w.drew.alloc (.cells (xs.toArray ++ news.toArray ++ Builtin.zeroCells z.cells (grownCap w (n + m) old e - (n + m))) e)).ownsRow base e i.size
        (.slice (some ⟨w.heap.size, 0, none⟩) (n + m) (grownCap w (n + m) old e)) (n + m) (xs ++ news) ∧
      w.grownBy (w.drew.alloc (.cells (xs.toArray ++ news.toArray ++ Builtin.zeroCells z.cells (grownCap w (n + m) old e - (n + m))) e)) none ∧
      w.heap.size < (w.drew.alloc (.cells (xs.toArray ++ news.toArray ++ Builtin.zeroCells z.cells (grownCap w (n + m) old e - (n + m))) e)).heap.size := by
    intro old
    have hge := grownCap_ge w (n + m) old e
    have hcm : grownCap w (n + m) old e ≤ maxLen := grownCap_le_maxLen w (n + m) old e h63
    refine ⟨⟨hlen, .inr ⟨w.heap.size, _, _, rfl, hbase, heap_alloc_new w.drew _, hge, hcm, ?_, ?_⟩⟩, ⟨rfl, rfl, rfl, by simp, fun k hk _ => Below.heap_alloc w.drew _ k hk⟩, by simp⟩
    · simp only [Array.size_append, List.size_toArray, size_zeroCells, hzs, hxs, hl, ← Nat.add_mul]
      congr 1
      omega
    · simp only [Array.toList_append, List.append_assoc]
      rw [← List.append_assoc, ← hlen]
      exact List.take_left
  rcases hown with ⟨rfl, rfl⟩ | ⟨b, rfl, holds⟩
  · have hx : xs = [] := List.eq_nil_of_length_eq_zero (by simpa using hxs)
    subst hx
    have hr := run_append_nil (P := P) w t ty e i z ht hi hz a m c news hl hnews (by omega) (by omega) (by have hb := hbytes; simp only [Nat.zero_add] at hb; omega)
    have hgr := grown 0
    simp only [Nat.zero_add, List.nil_append, Array.empty_append] at hgr ⊢
    exact ⟨_, _, hr, hgr⟩
  · have hr := run_append_grow (P := P) w t ty e i z ht hi hz b n n xs hxs holds a m c news hl hnews (by omega) (by omega) (growslice_fits (by omega) hbytes)
    exact ⟨_, _, hr, grown n⟩
end
theorem wpList_append_cap {P : Program} {w : World} {ops : Array Oper} {rest : List Oper} {o : Oper} {a : Act} {Q : Exit → Act → World → Prop} (hgd : o.guard = none) (s x : Operand) (t : TypeId)
    (ho : o.op = .call { callee := .builtin .append, args := #[s, x], argTypes := #[t, t] })
    (base : Nat) (e : TypeId) (i : TypeInfo) (z : Value) (size bytes : Nat) (ht : P.underlying t = some (.slice e)) (hi : P.info? e = some i) (hz : i.zero = some z)
    (hsize : i.size = size) (hby : i.bytes = bytes) (hzs : z.cells.size = size)
    (v : Value) (n : Nat) (xs : List Value) (hs : a.eval s = v) (hxs : xs.length = n * size) (hown : Full w v n xs)
    (ad : Addr) (m c : Nat) (news : List Value) (hx : a.eval x = .slice (some ad) m c) (hl : news.length = m * size) (hnews : ∀ j u, news[j]? = some u → w.cell? (ad.add j) = some u)
    (hm : 0 < m) (h63 : n + m ≤ maxLen) (hbytes : (n + m) * bytes ≤ 140737488355328) (hbase : base ≤ w.heap.size)
    (h : ∀ cap w', w'.ownsRow base e size (.slice (some ⟨w.heap.size, 0, none⟩) (n + m) cap) (n + m) (xs ++ news) → w.grownBy w' none → w.heap.size < w'.heap.size → wpList P ops Q rest (a.put o.dst (.slice (some ⟨w.heap.size, 0, none⟩) (n + m) cap)) w') : wpList P ops Q (o :: rest) a w := by
  refine wpList_plain hgd fun K hK => ?_
  obtain ⟨cap, w', hr, h2, h3, h4⟩ := run_append_cap (P := P) w base t o.type e i z size bytes ht hi hz hsize hby hzs v n xs hxs hown ad m c news hl hnews hm h63 hbytes hbase
  unfold Oper.wp execOp
  simp only [ho, resolve, invoke, builtin, Sem.run_bind, Sem.run_pure, Result.andThen_ok, List.map_toArray, List.map_cons, List.map_nil, hs, hx, hr]
  exact hK _ _ (h cap w' h2 h3 h4)
theorem wpListIn_append_cap {F : Fence} {d : Nat} {P : Program} {w : World} {ops : Array Oper} {rest : List Oper} {o : Oper} {a : Act} {Q : Exit → Act → World → Prop} (hgd : o.guard = none) (s x : Operand) (t : TypeId)
    (ho : o.op = .call { callee := .builtin .append, args := #[s, x], argTypes := #[t, t] })
    (base : Nat) (e : TypeId) (i : TypeInfo) (z : Value) (size bytes : Nat) (ht : P.underlying t = some (.slice e)) (hi : P.info? e = some i) (hz : i.zero = some z)
    (hsize : i.size = size) (hby : i.bytes = bytes) (hzs : z.cells.size = size)
    (v : Value) (n : Nat) (xs : List Value) (hs : a.eval s = v) (hxs : xs.length = n * size) (hown : Full w v n xs)
    (ad : Addr) (m c : Nat) (news : List Value) (hx : a.eval x = .slice (some ad) m c) (hl : news.length = m * size) (hnews : ∀ j u, news[j]? = some u → w.cell? (ad.add j) = some u)
    (hm : 0 < m) (h63 : n + m ≤ maxLen) (hbytes : (n + m) * bytes ≤ 140737488355328) (hbase : base ≤ w.heap.size)
    (h : ∀ cap w', w'.ownsRow base e size (.slice (some ⟨w.heap.size, 0, none⟩) (n + m) cap) (n + m) (xs ++ news) → w.grownBy w' none → w.heap.size < w'.heap.size → wpListIn F d P ops Q rest (a.put o.dst (.slice (some ⟨w.heap.size, 0, none⟩) (n + m) cap)) w') : wpListIn F d P ops Q (o :: rest) a w := by
  refine wpListIn_plain hgd fun K hK' => ?_
  obtain ⟨cap, w', hrun, r1, r2, r3⟩ := run_append_cap (P := P) w base t o.type e i z size bytes ht hi hz hsize hby hzs v n xs hxs hown ad m c news hl hnews hm h63 hbytes hbase
  unfold Oper.wpIn
  refine ⟨?_, ?_⟩
  · simp [Oper.about, ho, resolve, Target.leads, Sem.run_pure]
  · rw [Oper.semAt_plain F _ _ (by rw [ho]; intro c hc'; cases hc')]
    simp [execOp, ho, resolve, invoke, builtin, hs, hx, hrun, Result.andThen]
    exact hK' _ _ (h cap w' r1 r2 r3)
theorem lupon_append_cap {P : Program} (w : World) {o : Oper} {a : Act} {K : Act → World → Prop} (s x : Operand) (t : TypeId)
    (ho : o.op = .call { callee := .builtin .append, args := #[s, x], argTypes := #[t, t] })
    (base : Nat) (e : TypeId) (i : TypeInfo) (z : Value) (size bytes : Nat) (ht : P.underlying t = some (.slice e)) (hi : P.info? e = some i) (hz : i.zero = some z)
    (hsize : i.size = size) (hby : i.bytes = bytes) (hzs : z.cells.size = size)
    (v : Value) (n : Nat) (xs : List Value) (hs : a.eval s = v) (hxs : xs.length = n * size) (hown : Full w v n xs)
    (ad : Addr) (m c : Nat) (news : List Value) (hx : a.eval x = .slice (some ad) m c) (hl : news.length = m * size) (hnews : ∀ j u, news[j]? = some u → w.cell? (ad.add j) = some u)
    (hm : 0 < m) (h63 : n + m ≤ maxLen) (hbytes : (n + m) * bytes ≤ 140737488355328) (hbase : base ≤ w.heap.size)
    (h : ∀ cap w', w'.ownsRow base e size (.slice (some ⟨w.heap.size, 0, none⟩) (n + m) cap) (n + m) (xs ++ news) → w.grownBy w' none → w.heap.size < w'.heap.size → K (a.put o.dst (.slice (some ⟨w.heap.size, 0, none⟩) (n + m) cap)) w') : LUpon P o a K ((execOp a.eval o).run P w) := by
  obtain ⟨cap, w', hr, h2, h3, h4⟩ := run_append_cap (P := P) w base t o.type e i z size bytes ht hi hz hsize hby hzs v n xs hxs hown ad m c news hl hnews hm h63 hbytes hbase
  unfold execOp
  simp only [ho, resolve, invoke, builtin, Sem.run_bind, Sem.run_pure, Result.andThen_ok, List.map_toArray, List.map_cons, List.map_nil, hs, hx, hr]
  exact h cap w' h2 h3 h4
theorem full_of_ins {w : World} {B n : Nat} {A : Option Addr} {l : List Int} (h : InS w B A n l) (h0 : n = 0 → A = none) : Full w (.slice A n n) n (l.flatMap cI) := by
  rcases Nat.eq_zero_or_pos n with h1 | h1
  · subst h1; rw [h0 rfl]; exact .inl ⟨rfl, rfl⟩
  · obtain ⟨b, off, e, _, hc⟩ := h.2 h1
    subst e
    exact .inr ⟨_, rfl, fun j u hu => by rw [add_at]; exact hc j u hu⟩
theorem below_grown0 {B : Nat} {a w w' : World} (h : Below B a w) (hg : w.grownBy w' none) (hB : B ≤ a.heap.size) : Below B a w' := h.trans ⟨hg.os, hg.tape, hg.output, hg.size, fun k hk => hg.block k (by have := h.size; omega) (by simp)⟩
theorem full_of_own {w : World} {base : Nat} {e : TypeId} {size n c : Nat} {A : Option Addr} {xs : List Value} (h : w.ownsRow base e size (.slice A n c) n xs) : Full w (.slice A n n) n xs := by
  rcases h.2 with ⟨e1, e2⟩ | ⟨g, cap, cur, e1, _⟩
  · cases e1; exact .inl ⟨rfl, rfl⟩
  · cases e1; exact .inr ⟨_, rfl, h.cells (g := g) rfl⟩
end Go.Proofs.Ytolghmhodaphfaa
/- Plain law: what a set weighs. No program in sight. -/
namespace Go.Proofs.Ytolghmhodaphfaa
/-- The amounts from 1 on, below k, that are weighed. -/
def wl (p : Int) (ks : List Kd) (k : Nat) : List Int := ((List.range k).filter fun a : Nat => decide (0 < a) && decide (0 < ways p ks (a : Int))).map fun a : Nat => (a : Int)
theorem wl_zero (p : Int) (ks : List Kd) : wl p ks 0 = [] := rfl
theorem wl_in {p : Int} {ks : List Kd} {k : Nat} (h : 0 < k) (h2 : 0 < ways p ks k) : wl p ks (k + 1) = wl p ks k ++ [(k : Int)] := by
  unfold wl
  rw [List.range_succ, List.filter_append, List.map_append]
  congr 1
  rw [List.filter_cons_of_pos (by simp [h, h2])]
  rfl
theorem wl_out {p : Int} {ks : List Kd} {k : Nat} (h : k = 0 ∨ ways p ks k = 0) : wl p ks (k + 1) = wl p ks k := by
  unfold wl
  rw [List.range_succ, List.filter_append, List.map_append]
  rw [List.filter_cons_of_neg (by simp; omega)]
  simp
theorem wl_len (p : Int) (ks : List Kd) (k : Nat) : (wl p ks k).length ≤ k := by
  unfold wl
  rw [List.length_map]
  have := List.length_filter_le (fun a : Nat => decide (0 < a) && decide (0 < ways p ks (a : Int))) (List.range k)
  rwa [List.length_range] at this
def weighsL (p : Int) (ks : List Kd) : List Int := if openE ks p = 0 then wl p ks ((sumOf ks).toNat + 1) else []
theorem weighs_all : ∀ ks : List Kd, weighs ks (ks.map (·.many)) = sumOf ks
  | [] => rfl
  | k :: ks => by
    have := weighs_all ks
    simp only [List.map_cons, weighs, (mem_sum ks).2, this]

theorem lay_all {p : Int} (hp : p = 1 ∨ p = 2) : ∀ {ks : List Kd}, ks.all okK = true → LayOk p ks (ks.map (·.many))
  | [], _ => trivial
  | k :: ks, h => by
    simp only [List.all_cons, Bool.and_eq_true] at h
    have h1 := okK_t.1 h.1
    refine ⟨?_, Int.le_refl _, lay_all hp h.2⟩
    show leastK p k ≤ k.many
    unfold leastK
    rcases hp with rfl | rfl <;> omega
theorem ways_sum {p : Int} {ks : List Kd} (hp : p = 1 ∨ p = 2) (h : ks.all okK = true) : 0 < ways p ks (sumOf ks) := ways_lay.2 ⟨_, lay_all hp h, weighs_all ks⟩
end Go.Proofs.Ytolghmhodaphfaa
/- Walks: Upto, Weighs, Factors. -/
namespace Go.Proofs.Ytolghmhodaphfaa
open Go.RowKit
attribute [local go_sem] Oper.semAt_some
theorem firstI_bd (q : Int → Bool) (l : List Int) : -1 ≤ firstI q l ∧ firstI q l ≤ l.length := by
  unfold firstI
  split
  · rename_i k h
    have := (List.findIdx?_eq_some_iff_getElem.1 h).1
    omega
  · omega
set_option maxHeartbeats 400000 in
theorem upto_any (w : World) (A : Option Addr) (n c : Nat) (ks : List Kd) (p : Int) (hk : KdS w w.heap.size A n ks) (hn : n ≤ 12) :
    Calls Try.prog 26 #[.slice A n c, .int .i64 p] w fun e w' => e = .returned (.tuple #[.int .i64 (uptoV p ks), .int .i64 (openE ks p)]) ∧ Below w.heap.size w w' := by
  cases he : (openE ks p != 0)
  · have he0 : openE ks p = 0 := by simpa using he
    obtain ⟨hs, hp⟩ := openE_zero he0
    obtain ⟨-, -, h3, -, h5⟩ := checkSet_good hs
    have hS0 := sumOf_nonneg h3
    have hE := hid he0
    have hsm := hid (fun k (hk : k ∈ ks) => smallK_of (List.all_eq_true.1 h3 k hk))
    have hzb := firstI_bd (fun x => 0 == x) (rowW p ks)
    rw [rowW_len] at hzb
    cases hlt : decide (0 < gapZ p ks)
    · have hl := of_decide_eq_false hlt
      have hv : Hid (uptoV p ks = sumOf ks) := hid (by unfold uptoV; rw [if_neg (by omega), if_neg hl])
      have hg : Hid (gapE p ks = 5) := hid (by unfold gapE; rw [if_neg (by omega), if_neg hl])
      clear he he0 hs hp h3
      go_enter Try.func26, Try.ntmps26
      go_wp2_with (first | (go_at_call 28; refine (gap_any _ A n c ks p hk hn).mono ?_; rw [hg.out]; rintro e w1 ⟨rfl, hb1⟩; have hz1 := hb1.size) | (go_at_call 75; refine (sum_any _ A n c ks (hk.below hb1 hz1) (by omega) hsm.out).mono ?_; rintro e w5 ⟨rfl, hb5⟩))
      refine bodyPost_ret (v := .tuple #[.int .i64 (sumOf ks), .int .i64 0]) (by first | (simp [results, Try.results26, go_sem]; done) | (simp [results, Try.results26, go_sem, *]; done) | (simp [results, Try.results26, go_sem, World.cell?_setCell_same', *]; done) | (simp [results, Try.results26, go_sem]; first | exact ⟨rfl, rfl⟩ | rfl)) rfl ⟨by rw [hv.out, hE.out], hb1.trans (hb5.mono hz1)⟩
    · have hl := of_decide_eq_true hlt
      obtain ⟨z, hz⟩ : ∃ z, gapZ p ks = z := ⟨_, rfl⟩
      have hv : Hid (uptoV p ks = z - 1) := hid (by unfold uptoV; rw [if_neg (by omega), if_pos hl, hz])
      have hg : Hid (gapE p ks = 0) := hid (by unfold gapE; rw [if_neg (by omega), if_pos hl])
      have hgv : Hid (gapV p ks = z) := hid (by unfold gapV; rw [if_pos ⟨he0, hl⟩, hz])
      have hzw : IntKind.i64.wrap (z - 1) = z - 1 := by have : firstI (fun x => 0 == x) (rowW p ks) = z := hz; exact wrap_ok (by omega)
      clear he he0 hs hp h3 hzb hz hlt hl
      go_enter Try.func26, Try.ntmps26
      go_wp2_with (first | (go_at_call 28; refine (gap_any _ A n c ks p hk hn).mono ?_; rw [hg.out, hgv.out]; rintro e w1 ⟨rfl, hb1⟩; have hz1 := hb1.size))
      refine bodyPost_ret (v := .tuple #[.int .i64 (z - 1), .int .i64 0]) (by first | (simp [results, Try.results26, go_sem]; done) | (simp [results, Try.results26, go_sem, *]; done) | (simp [results, Try.results26, go_sem, World.cell?_setCell_same', *]; done) | (simp [results, Try.results26, go_sem]; first | exact ⟨rfl, rfl⟩ | rfl)) rfl ⟨by rw [hv.out, hE.out], hb1⟩
  · have he0 : openE ks p ≠ 0 := by simpa using he
    have hv : Hid (uptoV p ks = 0) := hid (if_pos he0)
    have hg : Hid (gapE p ks = openE ks p) := hid (if_pos he0)
    have d0 : (openE ks p == 0) = false := by simpa using he0
    have d5 : (openE ks p == 5) = false := by simpa using openE_ne5 ks p
    go_enter Try.func26, Try.ntmps26
    go_wp2_with (first | (go_at_call 28; refine (gap_any _ A n c ks p hk hn).mono ?_; rw [hg.out]; rintro e w1 ⟨rfl, hb1⟩))
    refine bodyPost_ret (v := .tuple #[.int .i64 0, .int .i64 (openE ks p)]) (by first | (simp [results, Try.results26, go_sem]; done) | (simp [results, Try.results26, go_sem, *]; done) | (simp [results, Try.results26, go_sem, World.cell?_setCell_same', *]; done) | (simp [results, Try.results26, go_sem]; first | exact ⟨rfl, rfl⟩ | rfl)) rfl ⟨by rw [hv.out], hb1⟩
def factsL (p : Int) (ks : List Kd) : List Int := ks.map fun k => p * k.many + 1
theorem mapI_take {F : Kd → Int} {ks : List Kd} {k : Nat} {m : Kd} (h : ks[k]? = some m) : ((ks.take (k + 1)).map F).flatMap cI = ((ks.take k).map F).flatMap cI ++ [.int .i64 (F m)] := by
  rw [List.take_add_one, h]
  simp [cI]
theorem info2 : (Try.prog.info? 2).map (fun i => (i.zero, i.size, i.bytes)) = some (some (.int .i64 0), 1, 8) := by kernel_rfl
theorem under23 : Try.prog.underlying 23 = some (.slice 2) := by kernel_rfl
theorem info_parts' {t : TypeId} {a : Option Value} {b c : Nat} (h : (Try.prog.info? t).map (fun i => (i.zero, i.size, i.bytes)) = some (a, b, c)) : ∃ i, Try.prog.info? t = some i ∧ i.zero = a ∧ i.size = b ∧ i.bytes = c := by
  cases hi : Try.prog.info? t with
  | none => rw [hi] at h; cases h
  | some i => rw [hi] at h; simp only [Option.map_some, Option.some.injEq, Prod.mk.injEq] at h; exact ⟨i, rfl, h.1, h.2.1, h.2.2⟩
set_option maxHeartbeats 800000 in
theorem factors_any (w : World) (A : Option Addr) (n c : Nat) (ks : List Kd) (p : Int) (hk : KdS w w.heap.size A n ks) (hn : n ≤ 12) :
    Calls Try.prog 39 #[.slice A n c, .int .i64 p] w fun e w' => ∃ v, e = .returned (.tuple #[v, .int .i64 (perfE p ks)]) ∧ w'.ownsRow w.heap.size 2 1 v (if perfE p ks = 0 then factsL p ks else []).length ((if perfE p ks = 0 then factsL p ks else []).flatMap cI) ∧ Below w.heap.size w w' := by
  obtain ⟨i0, hi0, hi1, hi2, hi3⟩ := info_parts' info2
  have I0 := hid hi0; have I1 := hid hi1; have I2 := hid hi2; have I3 := hid hi3
  clear hi0 hi1 hi2 hi3
  cases he : (perfE p ks != 0)
  · have he0 : perfE p ks = 0 := by simpa using he
    have ho : openE ks p = 0 := by
      unfold perfE at he0
      split at he0
      · assumption
      · rename_i h; simpa using h
    obtain ⟨hs, hp⟩ := openE_zero ho
    obtain ⟨-, -, h3, -, h5⟩ := checkSet_good hs
    have hok := hid (fun k (hk : k ∈ ks) => okK_le (List.all_eq_true.1 h3 k hk))
    have hE := hid he0
    have HP := hid hp
    rw [if_pos he0]
    have hlen := hid hk.len
    clear he he0 ho hs hp h3
    go_enter Try.func39, Try.ntmps39
    go_wp2_with (first | (go_at_call 37; refine (perfect_any _ A n c ks p hk hn).mono ?_; rw [hE.out]; rintro e w1 ⟨rfl, hb1⟩; have hz1 := hb1.size))
    go_loopw [8, 22] (fun v i wr => ∃ k : Nat, k ≤ n ∧ i = .int .i64 k ∧ Below w.heap.size w wr ∧ Hid (wr.ownsRow w.heap.size 2 1 v k (((ks.take k).map fun k => p * k.many + 1).flatMap cI))) (fun _ i _ => n - (intOf i).toNat)
    case atStart => exact ⟨0, by omega, rfl, hb1, hid (World.ownsRow_nil _ _ _ _)⟩
    case round =>
      obtain ⟨k, hk2, rfl, hbw, hown⟩ := hrel
      have hszw := hbw.size
      by_cases hlt : k < n
      · obtain ⟨b, off, m, rfl, hb, hm, c0, c1⟩ := (hk.below hbw (Nat.le_refl _)).at_ hlt
        have hmm := hok.out m (List.mem_of_getElem? hm)
        have Hm := hid hm
        have hpm : p * m.many = m.many ∨ p * m.many = 2 * m.many := by rcases HP.out with h | h <;> rw [h] <;> omega
        obtain ⟨q, hq⟩ : ∃ q, p * m.many = q := ⟨_, rfl⟩
        have z1 : IntKind.i64.wrap (p * m.many) = q := by rw [hq]; exact wrap_ok (by omega)
        have z2 : IntKind.i64.wrap (q + 1) = q + 1 := wrap_ok (by omega)
        have Hq := hid hq
        clear hm hpm hq
        go_wp2_with (first | (at_builtin; refine wpList_append_own _ rfl _ _ 23 rfl w.heap.size 2 i0 _ 1 8 under23 I0.out I1.out I2.out I3.out rfl (by decide) _ k _ rfl ((hown.out.alloc (.cells #[.int .i64 m.wt, .int .i64 m.many] 61)).alloc (.cells #[.int .i64 (q + 1)] 2)) ⟨wr.heap.size + 1, 0, none⟩ 1 1 [.int .i64 (q + 1)] rfl rfl (fun j u hj => World.news_of_block (Blk.new' (by simp)) j u hj) (one1 _) (by unfold maxLen; omega) (by omega) (by simp; omega) ?_; intro v' w3 ho3 hg3 hv3))
        have hb3 : Below w.heap.size w w3 := ((hbw.alloc hszw _).alloc (by simp; omega) _).grown hg3 (by simp; omega) (fun r hr => (World.ownsRow.lt hown.out r hr).1)
        exact ⟨⟨k + 1, by omega, by go_num, hb3, hid (by rw [mapI_take Hm.out, Hq.out]; exact ho3)⟩, by simp [intOf]; omega⟩
      · obtain rfl : k = n := by omega
        go_wp2
        have hl := hlen.out
        refine bodyPost_ret (v := .tuple #[u8, .int .i64 0]) (by first | (simp [results, Try.results39, go_sem]; done) | (simp [results, Try.results39, go_sem, *]; done) | (simp [results, Try.results39, go_sem, World.cell?_setCell_same', *]; done) | (simp [results, Try.results39, go_sem]; first | exact ⟨rfl, rfl⟩ | rfl)) rfl ⟨u8, by rw [hE.out], ?_, hbw⟩
        have ho := hown.out
        rw [List.take_of_length_le (by omega)] at ho
        unfold factsL
        rw [List.length_map, hl]
        exact ho
  · have he0 : perfE p ks ≠ 0 := by simpa using he
    rw [if_neg he0]
    go_enter Try.func39, Try.ntmps39
    go_wp2_with (first | (go_at_call 37; refine (perfect_any _ A n c ks p hk hn).mono ?_; rintro e w1 ⟨rfl, hb1⟩; have hz1 := hb1.size))
    refine bodyPost_ret (v := .tuple #[.slice none 0 0, .int .i64 (perfE p ks)]) (by first | (simp [results, Try.results39, go_sem]; done) | (simp [results, Try.results39, go_sem, *]; done) | (simp [results, Try.results39, go_sem, World.cell?_setCell_same', *]; done) | (simp [results, Try.results39, go_sem]; first | exact ⟨rfl, rfl⟩ | rfl)) rfl ⟨_, rfl, World.ownsRow_nil _ _ _ _, hb1⟩
end Go.Proofs.Ytolghmhodaphfaa
/- Walks: Weighs. -/
namespace Go.Proofs.Ytolghmhodaphfaa
open Go.RowKit
attribute [local go_sem] Oper.semAt_some
theorem make_i64 {L : Nat} (hL : L ≤ 100000) (w0 : World) : (Instr.makeSlice 23 (.int .i64 (L : Int)) (.int .i64 (L : Int))).run Try.prog w0 = .ok (.slice (some ⟨w0.heap.size, 0, none⟩) L L) (w0.alloc (.cells (madeCells #[.int .i64 0] L) 2)) := by
  have hso : (Try.prog.info? 2).isSome = true := by kernel_rfl
  obtain ⟨i, hi⟩ := Option.isSome_iff_exists.1 hso
  have hz : i.zero = some (.int .i64 0) ∧ i.size = 1 ∧ i.bytes = 8 := by
    have : (Try.prog.info? 2).map (fun i => (i.zero, i.size, i.bytes)) = some (some (.int .i64 0), 1, 8) := by kernel_rfl
    rw [hi] at this
    simpa using this
  have := run_makeSlice (P := Try.prog) (w := w0) 23 2 i (.int .i64 0) (by kernel_rfl) hi hz.1 .i64 .i64 (L : Int) (L : Int) (by omega) (Int.le_refl _) (by rw [hz.2.1]; omega) (by rw [hz.2.2]; omega) (by omega)
  rw [this, hz.2.1, Int.toNat_natCast, Nat.mul_one]
  rfl
set_option maxRecDepth 10000 in
set_option maxHeartbeats 800000 in
theorem weighs_walk (w : World) (A : Option Addr) (n c : Nat) (ks : List Kd) (p : Int) (hk : KdS w w.heap.size A n ks) (hn : n ≤ 12) :
    Calls Try.prog 24 #[.slice A n c, .int .i64 p] w fun e w' => ∃ A' m c', e = .returned (.tuple #[.slice A' m c', .int .i64 (openE ks p)]) ∧ InS w' w'.heap.size A' m (weighsL p ks) ∧ Below w.heap.size w w' := by
  obtain ⟨i0, hi0, hi1, hi2, hi3⟩ := info_parts' info2
  have I0 := hid hi0; have I1 := hid hi1; have I2 := hid hi2; have I3 := hid hi3
  clear hi0 hi1 hi2 hi3
  cases he : (openE ks p != 0)
  · have he0 : openE ks p = 0 := by simpa using he
    obtain ⟨hs, hp⟩ := openE_zero he0
    obtain ⟨-, -, h3, -, h5⟩ := checkSet_good hs
    have hS0 := sumOf_nonneg h3
    have hE := hid he0
    have HP := hid hp
    have hs' := hid hs
    obtain ⟨S, hS⟩ : ∃ S : Nat, (sumOf ks).toNat = S := ⟨_, rfl⟩
    have hSb : S ≤ 300 := by omega
    have HS := hid hS
    have hlast : Hid (0 < ways p ks S) := hid (by have := ways_sum hp h3; rwa [show sumOf ks = (S : Int) by omega] at this)
    have hw0 : Hid (∀ x, 0 ≤ ways p ks x) := hid (ways_nonneg p ks)
    have hWL : Hid (weighsL p ks = wl p ks (S + 1)) := hid (by unfold weighsL; rw [if_pos he0, hS])
    have hS1 : Hid (1 ≤ S) := hid (by
      rcases Nat.eq_zero_or_pos S with h | h
      · exfalso
        have h6 := (checkSet_good hs).1
        obtain ⟨k, hkk⟩ : ∃ k, ks[0]? = some k := ⟨_, List.getElem?_eq_getElem (by omega)⟩
        obtain ⟨k1, ks1, rfl⟩ : ∃ a b, ks = a :: b := by
          cases ks with
          | nil => simp at h6
          | cons a b => exact ⟨a, b, rfl⟩
        simp only [List.all_cons, Bool.and_eq_true] at h3
        have a1 := okK_t.1 h3.1
        have a2 := sumOf_nonneg h3.2
        have a3 : 1 * 1 ≤ k1.wt * k1.many := Int.mul_le_mul a1.1 a1.2.2.1 (by omega) (by omega)
        rw [(mem_sum ks1).2] at hS0 hS
        omega
      · exact h)
    clear he he0 hs hp h3
    go_enter Try.func24, Try.ntmps24
    go_wp2_with (first | (go_at_call 64; refine (open_ok _ A n c ks p hk hn hE.out).mono ?_; rintro e w1 ⟨g, rfl, hg1, hg2, hsc, hb1⟩; have hz1 := hb1.size) | (go_at_call 76; refine (ways_walk _ A g n c ks p hg2 hsc (hk.below hb1 hz1) hn hs'.out HP.out).mono ?_; rintro e w2 ⟨⟨B, c', rfl, hB⟩, hb2⟩; rw [HS.out] at hB ⊢; have hz2 := hb2.size))
    obtain ⟨b, off, x0, hBe, -⟩ := hB.at_ (k := 0) (by omega)
    cases hBe
    have hb12 : Below w.heap.size w w2 := hb1.trans (hb2.mono hz1)
    go_loopw [8, 24] (fun v i wr => ∃ k : Nat, k ≤ S + 1 ∧ i = .int .i64 k ∧ Below w.heap.size w wr ∧ Below w2.heap.size w2 wr ∧ ∃ A' c', v = .slice A' (wl p ks k).length c' ∧ Hid (wr.ownsRow w2.heap.size 2 1 v (wl p ks k).length ((wl p ks k).flatMap cI))) (fun _ i _ => S + 1 - (intOf i).toNat)
    case atStart => exact ⟨0, by omega, rfl, hb12, Below.refl _ _, none, 0, rfl, hid (World.ownsRow_nil _ _ _ _)⟩
    case round =>
      obtain ⟨k, hk2, rfl, hbw, hb2w, A', c1, rfl, hown⟩ := hrel
      have hszw := hbw.size
      have hsz2 := hb2w.size
      by_cases hlt : k < S + 1
      · obtain ⟨b, off, x, hBe, hb, hm, c0⟩ := (hB.below hb2w (Nat.le_refl _)).at_ hlt
        cases hBe
        have hx : x = ways p ks k := by rw [rowOf_at hlt] at hm; simpa using hm.symm
        have Hx := hid hx
        have hx0 : 0 ≤ x := by rw [hx]; exact hw0.out _
        have hlti : (k : Int) < S + 1 := by omega
        have hwl := wl_len p ks k
        clear hm hx
        by_cases hpos : 0 < k ∧ 0 < x
        · obtain ⟨hk0, hx1⟩ := hpos
          have hk0i : (0 : Int) < k := by omega
          have d1 : decide ((0 : Int) < k) = true := decide_eq_true hk0i
          have d2 : decide (0 < x) = true := decide_eq_true hx1
          have hin := hid (wl_in hk0 (by rw [← Hx.out]; exact hx1) : wl p ks (k + 1) = _)
          obtain ⟨L, hL⟩ : ∃ L, wl p ks k = L := ⟨_, rfl⟩
          obtain ⟨ln, hln⟩ : ∃ ln, L.length = ln := ⟨_, rfl⟩
          rw [hL, hln] at hown
          rw [hL] at hin hwl
          rw [hln] at hwl
          have hxs : (L.flatMap cI).length = ln * 1 := by rw [flatI_len', hln, Nat.mul_one]
          have hcap := own_cap hown.out
          have hfull := full_of_own (hown.out.alloc (.cells #[.int .i64 (k : Int)] 2))
          have hin' := hid hin
          have Hxs := hid hxs
          have HL := hid hL
          clear hin hxs
          simp only [hL, hln]
          go_wp2_with (at_builtin; refine wpList_append_cap rfl _ _ 23 rfl w2.heap.size 2 i0 _ 1 8 under23 I0.out I1.out I2.out I3.out rfl _ ln (L.flatMap cI) rfl Hxs.out hfull ⟨wr.heap.size, 0, none⟩ 1 1 [.int .i64 (k : Int)] rfl rfl (fun j u hj => World.news_of_block (Blk.new' rfl) j u hj) (by decide) (by unfold maxLen; omega) (by omega) (by simp; omega) ?_; intro cap w3 ho3 hg3 hz3)
          have hbw3 : Below wr.heap.size wr w3 := below_grown0 ((Below.refl _ _).alloc (Nat.le_refl _) _) hg3 (Nat.le_refl _)
          refine ⟨⟨k + 1, by omega, by go_num, hbw.trans (hbw3.mono hszw), hb2w.trans (hbw3.mono hsz2), some ⟨wr.heap.size + 1, 0, none⟩, cap, ?_, ?_⟩, by simp [intOf]; omega⟩
          · rw [hin'.out, List.length_append, hln]; simp
          · refine hid ?_
            rw [hin'.out, List.length_append, hln, List.flatMap_append]
            rw [World.size_alloc] at ho3
            exact ho3
        · have hout := hid (wl_out (p := p) (ks := ks) (k := k) (by rw [← Hx.out]; omega))
          by_cases hk0 : 0 < k
          · have hk0i : (0 : Int) < k := by omega
            have hx2 : ¬ 0 < x := by omega
            go_wp2
            exact ⟨⟨k + 1, by omega, by go_num, hbw, hb2w, A', c1, by rw [hout.out], by rw [hout.out]; exact hown⟩, by simp [intOf]; omega⟩
          · have hk0i : ¬ (0 : Int) < k := by omega
            go_wp2
            exact ⟨⟨k + 1, by omega, by go_num, hbw, hb2w, A', c1, by rw [hout.out], by rw [hout.out]; exact hown⟩, by simp [intOf]; omega⟩
      · obtain rfl : k = S + 1 := by omega
        obtain ⟨L, hL⟩ : ∃ L, wl p ks (S + 1) = L := ⟨_, rfl⟩
        obtain ⟨ln, hln⟩ : ∃ ln, L.length = ln := ⟨_, rfl⟩
        have hwl := wl_len p ks (S + 1)
        have hpos : 0 < ln := by
          rw [← hln, ← hL, wl_in hS1.out hlast.out]; simp
        rw [hL, hln] at hown
        rw [hL, hln] at hwl
        obtain ⟨g9, cap9, hv9, hg9, hlt9⟩ := World.ownsRow.form hown.out hpos
        cases hv9
        have HL := hid hL
        have Hln := hid hln
        simp only [hL, hln]
        have hnot : ¬ ((S + 1 : Nat) : Int) < (S : Int) + 1 := by omega
        have hmk := make_i64 (L := ln) (by omega)
        have hLl : (L.flatMap cI).length = ln := by rw [flatI_len', hln]
        have hBk : Blk (wr.alloc (.cells (madeCells #[.int .i64 0] ln) 2)) wr.heap.size 2 (madeCells #[.int .i64 0] ln) := Blk.new _ _ _
        have hms : (madeCells #[.int .i64 0] ln).size = ln := by rw [made_row, List.size_toArray, flatI_len', rowOf_len]
        have hcp := run_copy_sz (P := Try.prog) (wr.alloc (.cells (madeCells #[.int .i64 0] ln) 2)) 23 23 3 2 1 wr.heap.size 0 ln ln ⟨g9, 0, none⟩ ln c1 (madeCells #[.int .i64 0] ln) 2 (L.flatMap cI) under23 (by kernel_rfl) hBk (by rw [hLl]; show ln = min ln ln * 1; omega) ((hown.out.alloc _).cells (g := g9) rfl) (by omega) (one_flatI _)
        rw [show ((madeCells #[.int .i64 0] ln).toList.take 0 ++ L.flatMap cI ++ (madeCells #[.int .i64 0] ln).toList.drop (0 + (L.flatMap cI).length)).toArray = (L.flatMap cI).toArray by
          rw [List.drop_of_length_le (by rw [Array.length_toList, hms, hLl]; omega)]; simp] at hcp
        have hBr := hBk.row (L.flatMap cI).toArray
        have hbr := below_setRow (hbw.alloc hszw (.cells (madeCells #[.int .i64 0] ln) 2)) hszw (L.flatMap cI).toArray
        generalize hZ : (wr.alloc (.cells (madeCells #[.int .i64 0] ln) 2)).setRow wr.heap.size (L.flatMap cI).toArray = W9 at *
        have Hbr := hid hbr
        have HBr := hid hBr
        clear hL hln hZ hbr hBr hLl hms hBk
        go_wp2
        refine bodyPost_ret (v := .tuple #[.slice (some ⟨wr.heap.size, 0, none⟩) ln ln, .int .i64 0]) (by first | (simp [results, Try.results24, go_sem]; done) | (simp [results, Try.results24, go_sem, *]; done) | (simp [results, Try.results24, go_sem, World.cell?_setCell_same', *]; done) | (simp [results, Try.results24, go_sem]; first | exact ⟨rfl, rfl⟩ | rfl)) rfl ?_
        refine ⟨some ⟨wr.heap.size, 0, none⟩, ln, ⟨ln, by rw [hE.out]⟩, ?_, Hbr.out⟩
        rw [hWL.out, HL.out]
        have := ins_blk HBr.out (Blk.lt HBr.out)
        rwa [Hln.out] at this
  · have he0 : openE ks p ≠ 0 := by simpa using he
    have hWL : Hid (weighsL p ks = []) := hid (if_neg he0)
    go_enter Try.func24, Try.ntmps24
    go_wp2_with (first | (go_at_call 64; refine (open_bad _ A n c ks p hk hn he0).mono ?_; rintro e w1 ⟨rfl, hb1⟩))
    refine bodyPost_ret (v := .tuple #[.slice none 0 0, .int .i64 (openE ks p)]) (by first | (simp [results, Try.results24, go_sem]; done) | (simp [results, Try.results24, go_sem, *]; done) | (simp [results, Try.results24, go_sem, World.cell?_setCell_same', *]; done) | (simp [results, Try.results24, go_sem]; first | exact ⟨rfl, rfl⟩ | rfl)) rfl ⟨none, 0, 0, rfl, by rw [hWL.out]; exact Sl.none_, hb1⟩
end Go.Proofs.Ytolghmhodaphfaa
