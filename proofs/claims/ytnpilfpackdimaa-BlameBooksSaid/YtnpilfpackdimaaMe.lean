/- Texts of the proof, laid together by program. -/
import Derived.Test.YtnpilfpackdimaaMd
import Derived.Laws.CopyOwn
import Derived.Laws.MakeOwn
set_option linter.unusedSimpArgs false
set_option linter.unusedVariables false
/- Walks: least: sets in a map, those with another one in them struck out. -/
namespace Go.Proofs.Ytnpilfpackdimaa
open Go.RowKit Go.WideMaps Go.Shelf
open Go.Maps (Keyed)
attribute [local go_sem] Oper.semAt_some
theorem S0_take {ls : List (List Int)} {k : Nat} {l : List Int} (h : ls[k]? = some l) (y : Nat) : S0 (ls.take (k + 1)) y = (S0 (ls.take k) y || y == bitsL l) := by
  unfold S0
  rw [List.take_add_one, h, List.any_append]
  have : (bitsL l == y) = (y == bitsL l) := Bool.beq_comm
  simp [this]
theorem newLi_other {w w' : World} {lo base : Nat} {v : Value} {ls : List (List Int)} {r : Nat} (h : NewLiF w lo base v ls) (hg : w.grownBy w' (some r)) (hr : ∀ o : Obj, w.heap[r]? = some o → o.isCells = false) : NewLiF w' lo base v ls := by
  obtain ⟨vs, ho, hl, hlv⟩ := h
  refine ⟨vs, ?_, ⟨hl.1, fun k l hk => ?_⟩, hlv⟩
  · exact owns_same ho fun q hq => hg.block q (World.ownsRow.lt ho q hq).2 (fun e => by
      have e := Option.some.inj e
      rcases ho.2 with ⟨h1, -⟩ | ⟨g', cap, cur, h1, -, hb, -⟩
      · subst h1; cases hq
      · subst h1
        have hq' : q = g' := by have := hq; simp [Value.ownBlock] at this; exact this.symm
        rw [← hq', e] at hb
        have := hr _ hb
        cases this)
  · obtain ⟨A, m, c, h1, h2, h3⟩ := hl.2 k l hk
    refine ⟨A, m, c, h1, ⟨h2.1, fun hm => ?_⟩, fun b off e => ⟨Nat.lt_of_lt_of_le (h3 b off e).1 hg.size, (h3 b off e).2⟩⟩
    obtain ⟨b, off, e, hb, hc⟩ := h2.2 hm
    refine ⟨b, off, e, Nat.lt_of_lt_of_le hb hg.size, fun j u hu => ?_⟩
    have hcell := hc j u hu
    refine (World.cell?_of_block (hg.block b hb fun e' => ?_)).trans hcell
    have e' := Option.some.inj e'
    obtain ⟨o, ho', hoc⟩ := cells_of_cell hcell
    have ho2 : w.heap[b]? = some o := ho'
    rw [e'] at ho2
    rw [hr o ho2] at hoc; cases hoc
theorem newLi_ne {w : World} {lo base : Nat} {v : Value} {ls : List (List Int)} {r : Nat} {o : Obj} (h : NewLiF w lo base v ls) (hr : w.heap[r]? = some o) (ho : o.isCells = false) : some r ≠ v.ownBlock := by
  obtain ⟨vs, hw, -⟩ := h
  rcases hw.2 with ⟨h1, -⟩ | ⟨g', cap, cur, h1, -, hb, -⟩
  · subst h1; exact fun e => by cases e
  · subst h1
    intro e
    have e : r = g' := by simpa [Value.ownBlock] using e
    subst e
    rw [hb] at hr; cases hr; cases ho
/-- Who has been collected. -/
structure Coll (S T : Nat → Bool) (xs : List Nat) : Prop where
  nodup : xs.Nodup
  lt : ∀ x ∈ xs, x < 256
  mem : ∀ x, x < 256 → (x ∈ xs ↔ S x = true ∧ T x = false)
theorem Coll.nil (S : Nat → Bool) : Coll S S [] := ⟨List.nodup_nil, (fun _ h => by cases h), (fun x _ => by simp)⟩
theorem Coll.done {S T : Nat → Bool} {xs : List Nat} (h : Coll S T xs) (hT : ∀ x, x < 256 → T x = false) : ∀ x, x < 256 → (x ∈ xs ↔ S x = true) := fun x hx => by
  rw [h.mem x hx, hT x hx]; simp
theorem Coll.len {S T : Nat → Bool} {xs : List Nat} (h : Coll S T xs) : xs.length ≤ 256 := by
  have hp : ∀ (l : List Nat) (n : Nat), l.Nodup → (∀ x ∈ l, x < n) → l.length ≤ n := by
    intro l n
    induction n generalizing l with
    | zero => intro _ h; cases l with
      | nil => simp
      | cons x l => exact absurd (h x (List.mem_cons_self)) (by omega)
    | succ n ih =>
      intro hn h
      have h1 := ih (l.erase n) (hn.erase n) fun x hx => by
        have h2 := h x (List.mem_of_mem_erase hx)
        have h3 : x ≠ n := fun e => hn.not_mem_erase (e ▸ hx)
        omega
      have := List.length_erase_le (a := n) (l := l)
      have h4 : l.length ≤ (l.erase n).length + 1 := by
        by_cases hm : n ∈ l
        · rw [List.length_erase_of_mem hm]; omega
        · rw [List.erase_of_not_mem hm]; omega
      omega
  exact hp xs 256 h.nodup h.lt
theorem Coll.more {S T : Nat → Bool} {xs : List Nat} (h : Coll S T xs) {x : Nat} (hx : x < 256) (hT : T x = true) (hS : S x = true) : Coll S (fun z => T z && z != x) (xs ++ [x]) := by
  refine ⟨List.nodup_append.2 ⟨h.nodup, by simp, fun a ha b hb e => ?_⟩, fun y hy => ?_, fun y hy => ?_⟩
  · rw [List.mem_singleton.1 hb] at e
    subst e
    have := ((h.mem a hx).1 ha).2
    rw [hT] at this; cases this
  · rcases List.mem_append.1 hy with h1 | h1
    · exact h.lt y h1
    · rw [List.mem_singleton.1 h1]; exact hx
  · rw [List.mem_append, h.mem y hy, List.mem_singleton]
    by_cases e : y = x
    · subst e; simp [hS]
    · simp [e]
theorem wf1 : (Lit.int .i64 1).wf = true := by decide
set_option maxRecDepth 100000 in
set_option maxHeartbeats 4000000 in
theorem least_any (A : Option Addr) (n c : Nat) (ls : List (List Int)) (w : World) (hl : LiS w w.heap.size A n ls) (hn : n ≤ 1000000) (hv : ∀ l ∈ ls, isL 8 0 l = true) :
    Calls Try.prog 67 #[.slice A n c] w fun e w' => ∃ A' n' c', e = .returned (.slice A' n' c') ∧ (n' = 0 → A' = none ∧ c' = 0) ∧ LiF w' w.heap.size w'.heap.size A' n' (leastL ls) ∧ Below w.heap.size w w' := by
  have hlen := hid hl.1
  have HL := hid hl
  have HV := hid hv
  clear hl hv
  have hMm := World.ownsMap_made (H := Unit) w Try.prog 94 (plainElem (H := Unit) Try.prog 3)
  obtain ⟨W1, hW1⟩ : ∃ W1, w.alloc (.map #[] 0) = W1 := ⟨_, rfl⟩
  have hb1 : Below w.heap.size w W1 := by rw [← hW1]; exact (Below.refl _ _).alloc (Nat.le_refl _) _
  rw [hW1] at hMm
  have HM0 := hid hMm
  have hmm := @run_makeMap Try.prog
  clear hMm
  go_enter Try.func67, Try.ntmps67
  go_wp2
  go_loopw [13] (fun i wr => ∃ (k : Nat) (D : DataW Unit), k ≤ n ∧ i = .int .i64 k ∧ Hid (MF wr w.heap.size k D) ∧ Hid (SetM D (S0 (ls.take k))) ∧ Below w.heap.size w wr) (fun i _ => n - (intOf i).toNat)
  case atStart => exact ⟨0, .map [], by omega, rfl, HM0, hid SetM.nil, hb1⟩
  case round =>
    clear HM0 hb1 hW1 hmm
    obtain ⟨k, D, hk, rfl, hM, hS, hbw⟩ := hrel
    have hszw := hbw.size
    by_cases hlt : k < n
    · obtain ⟨b, off, x, A', m, c', rfl, hb, hm, c0, hin⟩ := (HL.out.below hbw hszw).at_ hlt
      have Hm := hid hm
      have hlti : (k : Int) < n := by omega
      have hxv := HV.out x (List.mem_of_getElem? hm)
      have hxb := hid (isL_bd hxv)
      have hx256 : Hid (bitsL x < 256) := hid (bitsL_lt (n := 8) hxv)
      have hm8 : m ≤ 1000000 := by have := isL_len8 hxv (by omega); have := hin.len; omega
      have HI := hid hin
      clear hm hin hxv
      go_wp2_with (fail)
      refine (marked_any A' m c' x _ HI.out hm8 hxb.out).mono ?_
      rintro e w2 ⟨rfl, hb2⟩
      have hM2 := hid (map_below hM.out hb2)
      have hbw2 := hbw.trans (hb2.mono hszw)
      clear hb2
      unfold mkB
      go_wp2_with (at_mapUpdate; refine wpList_mapUpdate_own _ rfl _ _ _ 92 rfl 94 3 KF underM _ w.heap.size k D rfl hM2.out (by unfold maxLen; omega) _ _ (klB (bitsL x)) rfl rfl (key_klE hx256.out) _ [] (plainElem_int underI wf1) ?_; intro W3 hmap3 hgr3)
      have hb3 : Below w.heap.size w W3 := hbw2.grown hgr3 hbw2.size (fun r e => by have := Option.some.inj e; have := hbw2.size; omega)
      have hS3 : Hid (SetM (D.put (klB (bitsL x)) (.lit (.int .i64 1))) (S0 (ls.take (k + 1)))) := hid ((hS.out.put hM2.out.isMap hx256.out _).congr fun y _ => S0_take Hm.out y)
      have HM3 := hid hmap3
      clear hmap3 hgr3
      exact ⟨⟨k + 1, _, by omega, by go_num, HM3, hS3, hb3⟩, by simp [intOf]; omega⟩
    · obtain rfl : k = n := by omega
      have hS1 : Hid (SetM D (S0 ls)) := hid (by have := hS.out; rwa [List.take_of_length_le (by rw [hlen.out]; exact Nat.le_refl _)] at this)
      clear hS hlen HL HV
      go_wp2_with (at_range; refine wpList_range_own _ rfl _ _ rfl 94 3 KF underM _ w.heap.size k D rfl hM.out ?_; intro W2 hrg hgr hs2)
      go_frame
      have hb2 : Below w.heap.size w W2 := hbw.grown hgr hszw (fun r e => by cases e)
      have HR0 := hid hrg
      obtain ⟨R1, hR1⟩ : ∃ R, wr.heap.size = R := ⟨_, rfl⟩
      rw [hR1] at HR0 ⊢
      have hwR : w.heap.size ≤ R1 := by omega
      have hR2 : R1 < W2.heap.size := by omega
      have hS0 := hS1
      clear hrg hgr hs2 hM hbw hszw hR1 hlt hS1
      go_loopw [6] (fun _ wr => ∃ (S T : Nat → Bool) (D : DataW Unit) (left : Lit → Bool) (cnt : Nat), Hid (RF wr w.heap.size R1 k D left cnt) ∧ Hid (SetM D S) ∧ Hid (Lf left T) ∧ Hid (Str (S0 ls) S T) ∧ Below w.heap.size w wr) (fun _ wr => wr.rangeLeft w.heap.size R1)
      case atStart => exact ⟨S0 ls, S0 ls, D, _, _, HR0, hS0, hid (Lf.start hS0.out), hid (Str.start _), hb2⟩
      case round =>
        clear hb2 HR0 hS0 hR2
        obtain ⟨S, T, D, left, cnt, hRF, hSM, hLf, hStr, hbw⟩ := hrel
        have hszw := hbw.size
        go_wp2_with (at_next; refine wpList_next_found rfl _ rfl w.heap.size R1 k D left cnt T rfl hRF.out hLf.out ?_ ?_)
        · intro hT0
          have Hmin := hid (hStr.out.done hT0)
          clear hT0
          have HMF := hid hRF.out.owns
          clear hRF hLf hStr
          go_wp2_with (at_range; refine wpList_range_own _ rfl _ _ rfl 94 3 KF underM _ w.heap.size k D rfl HMF.out ?_; intro W3 hrg3 hgr3 hs3)
          go_frame
          have hb3 : Below w.heap.size w W3 := hbw.grown hgr3 hszw (fun r e => by cases e)
          have HR3 := hid hrg3
          obtain ⟨R3, hR3⟩ : ∃ R, wr.heap.size = R := ⟨_, rfl⟩
          have hwR3 : w.heap.size ≤ R3 := by omega
          rw [hR3] at HR3 ⊢
          clear hrg3 hgr3 hs3 hbw hszw hR3 HMF
          go_loopw [8] (fun v wr => ∃ (xs : List Nat) (T : Nat → Bool) (left : Lit → Bool) (cnt : Nat), Hid (RF wr w.heap.size R3 k D left cnt) ∧ Hid (Lf left T) ∧ Hid (NewLiF wr w.heap.size w.heap.size v (xs.map fun x => listed x 8)) ∧ Hid (Coll S T xs) ∧ Hid (xs = [] → v = .slice none 0 0) ∧ Below w.heap.size w wr) (fun _ wr => wr.rangeLeft w.heap.size R3)
          case atStart => exact ⟨[], S, _, _, HR3, hid (Lf.start hSM.out), hid (NewLiF.nil _ _ _), hid (Coll.nil S), hid (fun _ => rfl), hb3⟩
          case round =>
            clear hb3 HR3
            obtain ⟨xs, T, left, cnt, hRF, hLf, hNL, hCo, hnil, hbw⟩ := hrel
            have hszw := hbw.size
            go_wp2_with (at_next; refine wpList_next_found rfl _ rfl w.heap.size R3 k D left cnt T rfl hRF.out hLf.out ?_ ?_)
            · intro hT0
              have hCo1 := hid (hCo.out.done hT0)
              have hxl : Hid (∀ l ∈ xs.map (fun x => listed x 8), l.length ≤ 1000000) := hid (fun l hl => by
                obtain ⟨x, -, rfl⟩ := List.mem_map.1 hl
                have := listed_len x 8; omega)
              have hln := hCo.out.len
              have hord : Hid (∀ L : List (List Int), L.Perm (xs.map fun x => listed x 8) → L.Pairwise (fun a b => before b a = false) → L = leastL ls) := hid (fun L hp hs => by
                have := ordL_of (S := minB (S0 ls)) hCo.out.nodup hCo.out.lt (fun x hx => by rw [hCo1.out x hx, Hmin.out x hx]) hp hs
                exact this)
              obtain ⟨vs, ho, hLi, hLv⟩ := hNL.out
              obtain ⟨L, hL⟩ : ∃ L, xs.map (fun x => listed x 8) = L := ⟨_, rfl⟩
              have hLn : L.length ≤ 256 := by rw [← hL, List.length_map]; exact hln
              rw [hL] at ho hLi hxl hord
              have HxL := hid hL
              clear hL hNL hln hT0 hRF hLf hCo hCo1
              obtain ⟨nL, hnL⟩ : ∃ nL, L.length = nL := ⟨_, rfl⟩
              rw [hnL] at ho hLn
              have HnL := hid hnL
              clear hnL
              rcases Nat.eq_zero_or_pos nL with h0 | h0
              · subst h0
                have hv0 := hnil.out (by have := HnL.out; rw [← HxL.out, List.length_map] at this; exact List.eq_nil_of_length_eq_zero this)
                subst hv0
                have hle : Hid (leastL ls = []) := hid (by
                  have hL0 : L = [] := List.eq_nil_of_length_eq_zero HnL.out
                  rw [← hord.out [] (by rw [hL0]) List.Pairwise.nil])
                clear ho hLi hLv
                go_wp2_with (go_at_call 81; refine (sort_none _ none 0).mono ?_; rintro e w1 ⟨rfl, rfl⟩)
                refine bodyPost_ret (v := .slice none 0 0) (by first | (simp [results, Try.results67, go_sem]; done) | (simp [results, Try.results67, go_sem, *]; done) | (simp [results, Try.results67, go_sem, World.cell?_setCell_same', *]; done) | (simp [results, Try.results67, go_sem]; first | exact ⟨rfl, rfl⟩ | rfl)) rfl ⟨none, 0, 0, rfl, fun _ => ⟨rfl, rfl⟩, ?_, hbw⟩
                rw [hle.out]
                exact LiF.nil _ _ _
              · obtain ⟨g, cap, rfl, hg1, hg2⟩ := own_form2 ho h0
                have HS := hid (sort_some wr w.heap.size g nL cap w.heap.size vs L ho hLi HnL.out.symm (by omega) hxl.out hLv hg1)
                clear ho hLi hLv
                go_wp2_with (go_at_call 81; refine HS.out.mono ?_; rintro e w1 ⟨rfl, ls', hp, hs, hli, hgr⟩)
                have hle := hid (hord.out ls' hp hs)
                refine bodyPost_ret (v := .slice (some ⟨g, 0, none⟩) nL cap) (by first | (simp [results, Try.results67, go_sem]; done) | (simp [results, Try.results67, go_sem, *]; done) | (simp [results, Try.results67, go_sem, World.cell?_setCell_same', *]; done) | (simp [results, Try.results67, go_sem]; first | exact ⟨rfl, rfl⟩ | rfl)) rfl ⟨_, nL, cap, rfl, fun h => by omega, ?_, hbw.grown hgr hszw (fun r e => by have := Option.some.inj e; omega)⟩
                rw [← hle.out]
                exact hli
            · intro x c1 left1 w1 cnt1 hx hTx hrg1 hLf1 hlt1 hgr1 hsz1 hen
              have hSx : Hid (S x = true) := hid (by
                have h1 := hLf.out.1 x hx
                rw [hTx] at h1
                rw [← hSM.out.has x hx]
                exact rf_has hRF.out hx h1)
              have hneR := hRF.out.ne
              have Hrd := hid hRF.out.left_eq
              have Hlt1 := hid hlt1
              have hb1 : Below w.heap.size w w1 := hbw.grown hgr1 hszw (fun r e => by have := Option.some.inj e; omega)
              have hCo2 := hid (hCo.out.more hx hTx hSx.out)
              have hln := hCo.out.len
              have HR1 := hid hrg1
              have HL1 := hid hLf1
              have hN1 : Hid (NewLiF w1 w.heap.size w.heap.size u8 (xs.map fun x => listed x 8)) := hid (newLi_other hNL.out hgr1 (fun o ho => by
                obtain ⟨es, clock, since, seen, c0, -, -, -, -, h2, -⟩ := hRF.out
                rw [h2] at ho; cases ho; rfl))
              obtain ⟨W3, hW3⟩ : ∃ W3, w1.alloc (.cells (mkB x) 94) = W3 := ⟨_, rfl⟩
              have hb13 : Below w1.heap.size w1 W3 := by rw [← hW3]; exact (Below.refl _ _).alloc (Nat.le_refl _) _
              have hb3 : Below w.heap.size w W3 := hb1.trans (hb13.mono hb1.size)
              have HR3 := hid (rf_below HR1.out hb13)
              have hN3 := hid (hN1.out.below hb13)
              have B9 : Hid (Blk W3 w1.heap.size 94 (mkB x)) := hid (by rw [← hW3]; exact Blk.new' rfl)
              obtain ⟨q0, q1, q2, q3, q4, q5, q6, q7⟩ := load8 B9.out
              have l9 := B9.out.lt
              have hz3 := hb3.size
              have hLA := @list_any x
              unfold mkB at hLA hW3
              unfold aggB at hen
              have HLA := hid hLA
              clear hLA hrg1 hgr1 hsz1 hlt1 hLf1 hTx hRF hLf hCo hNL HR1 hN1 hb13
              go_wp2_with (fail)
              refine (HLA.out _).mono ?_
              rintro e V1 ⟨A1, n1, c1', rfl, hc1, hn1, hin1, hfr1, hb10⟩
              have hbV1 := hb3.trans (hb10.mono hz3)
              have HR4 := hid (rf_below HR3.out hb10)
              have hN4 := hid (hN3.out.below hb10)
              have hzV := hbV1.size
              have hW3V := hb10.size
              have HI1 := hid hin1
              have Hfr := hid hfr1
              have hin2 : ∀ b off, A1 = some ⟨b, off, none⟩ → b < V1.heap.size := fun b off e => by
                rcases Nat.eq_zero_or_pos n1 with h | h
                · rw [(hn1 h).1] at e; cases e
                · obtain ⟨b', o', e', hb'⟩ := ins_some hin1 h
                  rw [e'] at e; cases e; exact hb'
              have Hin2 := hid hin2
              have hown : ∀ r, u8.ownBlock = some r → r < W3.heap.size := fun r hr => by
                obtain ⟨vs, ho, -⟩ := hN3.out
                exact (World.ownsRow.lt ho r hr).2
              have Hown := hid hown
              clear hin1 hfr1 hb10 hn1 hc1 hin2 q0 q1 q2 q3 q4 q5 q6 q7 hen hown
              have hneM : Hid (some w.heap.size ≠ u8.ownBlock ∧ some R3 ≠ u8.ownBlock) := hid (by
                obtain ⟨es, clock, since, seen, c0, h1, -, -, -, h2, -⟩ := HR4.out
                exact ⟨newLi_ne hN4.out h1 rfl, newLi_ne hN4.out h2 rfl⟩)
              have hN5 : Hid (NewLiF (V1.alloc (.cells #[.slice A1 n1 c1'] 25)) w.heap.size w.heap.size u8 (xs.map fun x => listed x 8)) := hid (hN4.out.below ((Below.refl _ _).alloc (Nat.le_refl _) _))
              have hll : (xs.map fun x => listed x 8).length ≤ 1000000 := by rw [List.length_map]; omega
              have Hll := hid hll
              have HR5 : Hid (RF (V1.alloc (.cells #[.slice A1 n1 c1'] 25)) w.heap.size R3 k D left1 cnt1) := hid (HR4.out.alloc _)
              have hb5 : Below w.heap.size w (V1.alloc (.cells #[.slice A1 n1 c1'] 25)) := hbV1.alloc hzV _
              clear hll hN4 HR4
              go_wp2_with (at_builtin; refine newLiF_append rfl (by rfl) _ _ rfl w.heap.size w.heap.size _ _ rfl hN5.out V1.heap.size A1 n1 c1' (listed x 8) rfl (Blk.new' rfl) (HI1.out.below ((Below.refl _ _).alloc (Nat.le_refl _) _) (by simp)) (fun b' off' e' => ⟨by have := Hin2.out b' off' e'; simp; omega, fun e3 => by have h1 := Hfr.out b' off' e'; have h2 := Hown.out b' e3; omega⟩) (fun b' off' e' => by have h1 := Hfr.out b' off' e'; omega) Hll.out hb5.size ?_; intro v4 w4 hn4 hg4 hat4)
              have hb6 : Below w.heap.size w w4 := hb5.grown hg4 hb5.size (fun r hr => by
                obtain ⟨vs, ho, -⟩ := hN5.out
                exact (World.ownsRow.lt ho r hr).1)
              have HR6 := hid (HR5.out.kept hg4 hneM.out.1 hneM.out.2)
              have hm6 : w4.rangeLeft w.heap.size R3 = cnt1 := HR6.out.left_eq
              have hn6 : NewLiF w4 w.heap.size w.heap.size v4 ((xs ++ [x]).map fun x => listed x 8) := by rw [List.map_append]; exact hn4
              exact ⟨⟨_, _, _, cnt1, HR6, HL1, hid hn6, hCo2, hid (fun e => by simp at e), hb6⟩, by rw [hm6, Hrd.out]; exact Hlt1.out⟩
        · intro x c1 left1 w1 cnt1 hx hTx hrg1 hLf1 hlt1 hgr1 hsz1 hen
          have hb1 : Below w.heap.size w w1 := hbw.grown hgr1 hszw (fun r e => by have := Option.some.inj e; omega)
          have hrd := hRF.out.left_eq
          have Hrd := hid hrd
          have Hlt1 := hid hlt1
          have HR1 := hid hrg1
          have HL1 := hid hLf1
          unfold aggB at hen
          clear hrd hlt1 hrg1 hLf1 hgr1 hsz1 hRF hLf hTx
          have hz1 := hb1.size
          obtain ⟨W3, hW3⟩ : ∃ W3, w1.alloc (.cells (mkB x) 94) = W3 := ⟨_, rfl⟩
          have hb3 : Below w.heap.size w W3 := by rw [← hW3]; exact hb1.alloc hz1 _
          have HR3 : Hid (RF W3 w.heap.size R1 k D left1 cnt1) := hid (by rw [← hW3]; exact HR1.out.alloc _)
          have B6 : Hid (Blk W3 w1.heap.size 94 (mkB x)) := hid (by rw [← hW3]; exact Blk.new' rfl)
          obtain ⟨X6, hX6⟩ : ∃ X, w1.heap.size = X := ⟨_, rfl⟩
          have hX6w : w.heap.size ≤ X6 := by omega
          have hX63 : X6 < W3.heap.size := by have := B6.out.lt; omega
          unfold mkB at hW3
          go_wp2_with (at_range; refine wpList_range_own _ rfl _ _ rfl 94 3 KF underM _ w.heap.size k D rfl HR3.out.owns ?_; intro W4 hrg4 hgr4 hs4)
          go_frame
          rw [hX6] at B6
          have hb4 : Below w.heap.size w W4 := hb3.grown hgr4 hb3.size (fun r e => by cases e)
          have B64 : Hid (Blk W4 X6 94 (mkB x)) := hid (B6.out.grown hgr4 (by simp))
          have HR4 := hid hrg4
          have HR14 : Hid (RF W4 w.heap.size R1 k D left1 cnt1) := hid (HR3.out.kept hgr4 (by simp) (by simp))
          obtain ⟨R2, hR2⟩ : ∃ R, W3.heap.size = R := ⟨_, rfl⟩
          rw [hR2] at HR4 ⊢
          have hwR2 : w.heap.size ≤ R2 := by have := hb3.size; omega
          have hR12 : Hid (R1 ≠ R2) := hid (by have := HR3.out.lt; omega)
          have hX6R : Hid (X6 ≠ R2 ∧ X6 ≠ R1) := hid ⟨by have := B6.out.lt; omega, by have := HR1.out.lt; omega⟩
          clear hrg4 hgr4 hs4 hW3 hX6 hR2 hen HR1 hb1 hb3 hz1 B6 HR3
          go_loopw [7] (fun _ wr => ∃ (T2 : Nat → Bool) (left2 : Lit → Bool) (cnt2 : Nat), Hid (RF wr w.heap.size R2 k D left2 cnt2) ∧ Hid (RF wr w.heap.size R1 k D left1 cnt1) ∧ Hid (Lf left2 T2) ∧ Hid (∀ y, y < 256 → S y = true → T2 y = false → y ≠ x → subB y x = false) ∧ Hid (Blk wr X6 94 (mkB x)) ∧ Below w.heap.size w wr) (fun _ wr => wr.rangeLeft w.heap.size R2)
          case atStart => exact ⟨S, _, _, HR4, HR14, hid (Lf.start hSM.out), hid (fun y _ h h' => by rw [h] at h'; cases h'), B64, hb4⟩
          case round =>
            clear hb4 HR4 HR14 B64 hX63
            obtain ⟨T2, left2, cnt2, hRF2, hRF1, hLf2, hno, hB6, hbw5⟩ := hrel
            have hszw5 := hbw5.size
            go_wp2_with (at_next; refine wpList_next_found rfl _ rfl w.heap.size R2 k D left2 cnt2 T2 rfl hRF2.out hLf2.out ?_ ?_)
            · intro hT0
              have hStr2 : Hid (Str (S0 ls) S fun y => T y && y != x) := hid (hStr.out.keep fun y hy hs hne => hno.out y hy hs (hT0 y hy) hne)
              clear hT0
              go_wp2
              exact ⟨⟨S, _, D, left1, cnt1, hRF1, hSM, HL1, hStr2, hbw5⟩, by rw [hRF1.out.left_eq, Hrd.out]; exact Hlt1.out⟩
            · intro y c2 left3 w2 cnt3 hy hTy hrg2 hLf3 hlt2 hgr2 hsz2 hen
              have hne2 := hRF2.out.ne
              have hSy : Hid (S y = true) := hid (by
                have h1 := hLf2.out.1 y hy
                rw [hTy] at h1
                rw [← hSM.out.has y hy]
                exact rf_has hRF2.out hy h1)
              have Hrd2 := hid hRF2.out.left_eq
              have Hlt2 := hid hlt2
              have hb6 : Below w.heap.size w w2 := hbw5.grown hgr2 hszw5 (fun r e => by have := Option.some.inj e; omega)
              have hz6 := hb6.size
              have HR26 := hid hrg2
              have HR16 : Hid (RF w2 w.heap.size R1 k D left1 cnt1) := hid (hRF1.out.kept hgr2 (by simpa using Ne.symm hne2) (by simpa using hR12.out))
              have HL3 := hid hLf3
              have B66 : Hid (Blk w2 X6 94 (mkB x)) := hid (hB6.out.grown hgr2 (by simpa using hX6R.out.1))
              obtain ⟨W5, hW5⟩ : ∃ W5, w2.alloc (.cells (mkB y) 94) = W5 := ⟨_, rfl⟩
              have hb5 : Below w.heap.size w W5 := by rw [← hW5]; exact hb6.alloc hz6 _
              have hb25 : Below w2.heap.size w2 W5 := by rw [← hW5]; exact (Below.refl _ _).alloc (Nat.le_refl _) _
              have HR25 : Hid (RF W5 w.heap.size R2 k D left3 cnt3) := hid (by rw [← hW5]; exact HR26.out.alloc _)
              have HR15 : Hid (RF W5 w.heap.size R1 k D left1 cnt1) := hid (by rw [← hW5]; exact HR16.out.alloc _)
              have B65 : Hid (Blk W5 X6 94 (mkB x)) := hid (B66.out.below hb25 B66.out.lt)
              have B75 : Hid (Blk W5 w2.heap.size 94 (mkB y)) := hid (by rw [← hW5]; exact Blk.new' rfl)
              obtain ⟨p0, p1, p2, p3, p4, p5, p6, p7⟩ := load8 B65.out
              obtain ⟨q0, q1, q2, q3, q4, q5, q6, q7⟩ := load8 B75.out
              have l6 := B65.out.lt
              have l7 := B75.out.lt
              have hz5 := hb5.size
              have hN := neqF (a := x) (b := y)
              rw [sameB_eq hx hy] at hN
              unfold mkB at hW5
              unfold aggB at hen hN
              clear hrg2 hgr2 hsz2 hlt2 hLf3 hTy hRF2 hLf2 hRF1 hB6 hb25 HR26 HR16 B66
              have Hno := hid hno.out
              by_cases hxy : y = x
              · subst hxy
                have hN' : ∀ W : World, (binOp .neq 94 (.agg #[bv y 0, bv y 1, bv y 2, bv y 3, bv y 4, bv y 5, bv y 6, bv y 7]) (.agg #[bv y 0, bv y 1, bv y 2, bv y 3, bv y 4, bv y 5, bv y 6, bv y 7])).run Try.prog W = .ok (.bool false) W := fun W => by rw [hN W]; simp
                clear hN
                go_wp2
                refine wp_region_hd_all (fun W => Below W5.heap.size W5 W) (by kernel_rfl) (by kernel_rfl) ((Below.refl _ _).drew) ?_
                iterate 4 (refine wpHd_val (v := ?_) (by rfl) (fun W hW => ?_) ?_; rotate_left; (· obtain ⟨hcW, hfW⟩ := bcell hW; go_simp; with_reducible rfl); simp only [Act.put, List.setIfInBounds_toArray, List.set_cons_zero, List.set_cons_succ])
                iterate 6 (refine wpHd_not (by rfl) ?_; simp only [Act.put, List.setIfInBounds_toArray, List.set_cons_zero, List.set_cons_succ])
                (refine wpHd_val (v := ?_) (by rfl) (fun W hW => ?_) ?_; rotate_left; (· obtain ⟨hcW, hfW⟩ := bcell hW; go_simp; with_reducible rfl); simp only [Act.put, List.setIfInBounds_toArray, List.set_cons_zero, List.set_cons_succ])
                refine wpHd_nil ?_
                intro W9 hW9
                have hb9 := hb5.trans (hW9.mono hz5)
                have HR29 := hid (rf_below HR25.out hW9)
                have HR19 := hid (rf_below HR15.out hW9)
                have B69 := hid (B65.out.below hW9 B65.out.lt)
                have hno9 : Hid (∀ z, z < 256 → S z = true → (T2 z && z != y) = false → z ≠ y → subB z y = false) := hid (fun z hz hs ht hne => Hno.out z hz hs (by simpa [hne] using ht) hne)
                have hm9 : Hid (W9.rangeLeft w.heap.size R2 = cnt3) := hid HR29.out.left_eq
                clear hW9 p0 p1 p2 p3 p4 p5 p6 p7 q0 q1 q2 q3 q4 q5 q6 q7 hno hen
                go_wp2
                exact ⟨⟨_, left3, cnt3, HR29, HR19, HL3, hno9, B69, hb9⟩, by rw [hm9.out, Hrd2.out]; exact Hlt2.out⟩
              · have hN' : ∀ W : World, (binOp .neq 94 (.agg #[bv x 0, bv x 1, bv x 2, bv x 3, bv x 4, bv x 5, bv x 6, bv x 7]) (.agg #[bv y 0, bv y 1, bv y 2, bv y 3, bv y 4, bv y 5, bv y 6, bv y 7])).run Try.prog W = .ok (.bool true) W := fun W => by rw [hN W]; simp [Ne.symm hxy]
                have hsb : Hid ((listed y 8).all (inB x) = subB y x) := rfl
                have hLA := @list_any y
                have hMH := @marksHas_any x
                unfold mkB at hLA hMH
                have HLA := hid hLA
                have HMH := hid hMH
                obtain ⟨sv, hsv⟩ : ∃ sv, subB y x = sv := ⟨_, rfl⟩
                have Hsv := hid hsv
                rw [hsv] at hsb
                clear hN hLA hMH hsv hno
                clear p0 p1 p2 p3 p4 p5 p6 p7 q0 q1 q2 q3 q4 q5 q6 q7
                go_wp2
                refine wp_region_el [0, 1, 2, 3, 4, 5, 6, 7] 3 (by kernel_rfl) (by kernel_rfl) (fun Y hY => ?_)
                have hYX : Below W5.heap.size W5 Y := by rw [hY]; exact (Below.refl _ _).drew
                clear hY
                have B6y := B65.out.below hYX l6
                have B7y := B75.out.below hYX l7
                have hbY := hid (hb5.trans (hYX.mono hz5))
                have HRY2 := hid (rf_below HR25.out hYX)
                have HRY1 := hid (rf_below HR15.out hYX)
                obtain ⟨p0, p1, p2, p3, p4, p5, p6, p7⟩ := load8 B6y
                obtain ⟨q0, q1, q2, q3, q4, q5, q6, q7⟩ := load8 B7y
                have l6y := B6y.lt
                have l7y := B7y.lt
                have HB6y := hid B6y
                clear hYX l6 l7 hen hz5 hb5 B6y B7y
                simp only [pick, List.getElem?_toArray, List.getElem?_cons_zero, List.getElem?_cons_succ]
                iterate 8 (refine wpE_val (v := ?_) (by rfl) (fun W hW => ?_) ?_; rotate_left; (· obtain ⟨hcW, hfW⟩ := bcell hW; go_simp; with_reducible rfl); simp only [Act.put, List.setIfInBounds_toArray, List.set_cons_zero, List.set_cons_succ])
                simp only [wpE]
                clear p0 p1 p2 p3 p4 p5 p6 p7 q0 q1 q2 q3 q4 q5 q6 q7
                (refine wpM_one 8 _ (by simp only [List.getElem?_toArray, List.getElem?_cons_zero, List.getElem?_cons_succ]; rfl) (by kernel_rfl) (by rfl) ?_)
                intro V0 hV0 hV0'
                (go_simp; simp only [LUpon, Act.put]; try simp only [List.setIfInBounds_toArray, List.set_cons_zero, List.set_cons_succ])
                refine (HLA.out V0).mono ?_
                rintro e V1 ⟨A1, n1, c1', rfl, hc1, hn1, hin1, hfr1, hb10⟩
                have hbV1 := hV0'.trans' hb10
                have HI1 := hid hin1
                have hn8 : n1 ≤ 1000000 := by have := hin1.len; have := listed_len y 8; omega
                clear hin1 hfr1 hb10 hn1 hc1
                refine ⟨_, rfl, hbV1, ?_⟩
                (refine wpM_one 9 _ (by simp only [List.getElem?_toArray, List.getElem?_cons_zero, List.getElem?_cons_succ]; rfl) (by kernel_rfl) (by rfl) ?_)
                intro V2 hV2 hV2'
                (go_simp; simp only [LUpon, Act.put]; try simp only [List.setIfInBounds_toArray, List.set_cons_zero, List.set_cons_succ])
                refine (HMH.out A1 n1 c1' (listed y 8) _ (HI1.out.below hV2 hV2.size) hn8 (listed_bd y)).mono ?_
                rw [hsb.out]
                rintro e V3 ⟨rfl, hb11⟩
                refine ⟨_, rfl, hV2'.trans' hb11, ?_⟩
                (refine wpM_one 10 _ (by simp only [List.getElem?_toArray, List.getElem?_cons_zero, List.getElem?_cons_succ]; rfl) (by kernel_rfl) (by rfl) ?_)
                intro V4 hV4 hV4'
                (go_simp; simp only [LUpon, Act.put]; try simp only [List.setIfInBounds_toArray, List.set_cons_zero, List.set_cons_succ])
                refine ⟨hV4', ?_⟩
                refine wpM_end (by kernel_rfl) ?_
                intro W9 hW9 hW9'
                have hb9 := hbY.out.trans (hW9'.mono hbY.out.size)
                have HR29 := hid (rf_below HRY2.out hW9')
                have HR19 := hid (rf_below HRY1.out hW9')
                have B69 := hid (HB6y.out.below hW9' l6y)
                have hz9 := hb9.size
                clear hV0 hV0' hV2 hV2' hV4 hV4' hW9 hW9' hbV1 hb11 l6y l7y
                cases sv
                · have hno9 : Hid (∀ z, z < 256 → S z = true → (T2 z && z != y) = false → z ≠ x → subB z x = false) := hid (fun z hz hs ht hne => by
                    by_cases e : z = y
                    · rw [e]; exact Hsv.out
                    · exact Hno.out z hz hs (by simpa [e] using ht) hne)
                  have hm9 : Hid (W9.rangeLeft w.heap.size R2 = cnt3) := hid HR29.out.left_eq
                  go_wp2
                  exact ⟨⟨_, left3, cnt3, HR29, HR19, HL3, hno9, B69, hb9⟩, by rw [hm9.out, Hrd2.out]; exact Hlt2.out⟩
                · obtain ⟨q0, q1, q2, q3, q4, q5, q6, q7⟩ := load8 B69.out
                  have l9 := B69.out.lt
                  go_wp2_with (at_delete; refine wpList_delete_ranges _ rfl _ _ 92 94 rfl 3 KF underM _ w.heap.size R1 k D left1 cnt1 rfl HR19.out _ (klB x) rfl (key_klE hx) ?_; intro V3 cnt4 hrg3 hle3 hturn)
                  have hm3 : V3.rangeLeft w.heap.size R1 = cnt4 := hrg3.left_eq
                  have hlf : Lf (fun z => left1 z && !z.sameKey (klB x)) (fun z => T z && z != x) := by
                    refine ⟨fun z hz => ?_, fun kl hk => ?_⟩
                    · show (left1 (klB z) && !(klB z).sameKey (klB x)) = _
                      rw [HL1.out.1 z hz, sameKey_klB hz hx]
                      by_cases e : z = x <;> simp [e]
                    · simp only [Bool.and_eq_true] at hk
                      exact HL1.out.2 kl hk.1
                  have hb3 : Below w.heap.size w V3 := hb9.grown hturn.grown hz9 (fun r e => by have := Option.some.inj e; omega)
                  refine ⟨?_, ?_⟩
                  · (repeat apply Exists.intro)
                    refine ⟨?_, rfl⟩
                    exact ⟨_, _, _, _, cnt4, hid hrg3, hid (hSM.out.del hx), hid hlf, hid (hStr.out.strike hx hy hSy.out hxy Hsv.out), hb3⟩
                  · rw [hm3, Hrd.out]
                    have := Hlt1.out
                    omega
end Go.Proofs.Ytnpilfpackdimaa
/- Walks: all: hire by hire, the least blames. -/
namespace Go.Proofs.Ytnpilfpackdimaa
open Go.RowKit Go.Shelf
attribute [local go_sem] Oper.semAt_some
/-- What a set goes on to with one more hire. -/
def goOn1 (l x : List Int) : List (List Int) := if l.any (inB (bitsL x)) then [x] else l.map fun i => listed (bitsL x ||| 2 ^ i.toNat) 8
def stepL (out : List (List Int)) (l : List Int) : List (List Int) := out.flatMap (goOn1 l)
def allP (hs : List (List Int)) : List (List Int) := hs.foldl (fun out l => leastL (stepL out l)) [[]]
theorem allP_take {hs : List (List Int)} {k : Nat} {l : List Int} (h : hs[k]? = some l) : allP (hs.take (k + 1)) = leastL (stepL (allP (hs.take k)) l) := by
  unfold allP
  rw [List.take_add_one, h, List.foldl_append]; rfl
theorem ordL_len (S : Nat → Bool) : (ordL S).length ≤ 256 := by
  unfold ordL
  rw [sortL_len, List.length_map]
  exact Nat.le_trans (List.length_filter_le _ _) (by simp)
theorem ordL_isL {S : Nat → Bool} {l : List Int} (h : l ∈ ordL S) : isL 8 0 l = true := by
  obtain ⟨x, -, -, rfl⟩ := mem_ordL.1 h
  exact isL_listed' x 8
theorem allP_len : ∀ (hs : List (List Int)), (allP hs).length ≤ 256
  | [] => by simp [allP]
  | l :: hs => by
    rcases List.eq_nil_or_concat (l :: hs) with h | ⟨hs', x, h⟩
    · cases h
    · rw [h, List.concat_eq_append]
      unfold allP
      rw [List.foldl_append]
      exact ordL_len _
theorem allP_isL : ∀ (hs : List (List Int)), ∀ l ∈ allP hs, isL 8 0 l = true
  | [], l, h => by
    have : l = [] := by simpa [allP] using h
    rw [this]; rfl
  | l' :: hs, l, h => by
    rcases List.eq_nil_or_concat (l' :: hs) with h' | ⟨hs', x, h'⟩
    · cases h'
    · rw [h', List.concat_eq_append] at h
      unfold allP at h
      rw [List.foldl_append] at h
      exact ordL_isL h
theorem stepL_take {out : List (List Int)} {l : List Int} {j : Nat} {x : List Int} (h : out[j]? = some x) : stepL (out.take (j + 1)) l = stepL (out.take j) l ++ goOn1 l x := by
  unfold stepL
  rw [List.take_add_one, h, List.flatMap_append]; simp
theorem goOn1_isL {l x : List Int} (hx : isL 8 0 x = true) : ∀ y ∈ goOn1 l x, isL 8 0 y = true := fun y hy => by
  unfold goOn1 at hy
  split at hy
  · rw [List.mem_singleton.1 hy]; exact hx
  · obtain ⟨i, -, rfl⟩ := List.mem_map.1 hy
    exact isL_listed' _ 8
theorem goOn1_len {l x : List Int} (hl : l.length ≤ 8) : (goOn1 l x).length ≤ 8 := by
  unfold goOn1
  split
  · simp
  · rw [List.length_map]; exact hl
theorem stepL_isL {out : List (List Int)} {l : List Int} (h : ∀ x ∈ out, isL 8 0 x = true) : ∀ y ∈ stepL out l, isL 8 0 y = true := fun y hy => by
  obtain ⟨x, hx, hy⟩ := List.mem_flatMap.1 hy
  exact goOn1_isL (h x hx) y hy
theorem stepL_len {l : List Int} (hl : l.length ≤ 8) : ∀ (out : List (List Int)), (stepL out l).length ≤ 8 * out.length
  | [] => by simp [stepL]
  | x :: out => by
    have h1 := goOn1_len (x := x) hl
    have h2 := stepL_len hl out
    unfold stepL at h2 ⊢
    rw [List.flatMap_cons, List.length_append, List.length_cons]
    omega
/-- A list's blocks lie below B. -/
theorem ins_lt {w : World} {B n : Nat} {A : Option Addr} {l : List Int} (h : InS w B A n l) (h0 : n = 0 → A = none) : ∀ b off, A = some ⟨b, off, none⟩ → b < B := fun b off e => by
  rcases Nat.eq_zero_or_pos n with h1 | h1
  · rw [h0 h1] at e; cases e
  · obtain ⟨b', o', e', hb'⟩ := ins_some h h1
    rw [e'] at e; cases e; exact hb'
end Go.Proofs.Ytnpilfpackdimaa
/- Walks: all. -/
namespace Go.Proofs.Ytnpilfpackdimaa
open Go.RowKit Go.Shelf
attribute [local go_sem] Oper.semAt_some
theorem LiF.lis {w : World} {lo B n : Nat} {A : Option Addr} {ls : List (List Int)} (h : LiF w lo B A n ls) : LiS w B A n ls := h.lip.lis
theorem enAll1 : ∀ args w, (callFunc 78 args).run Try.prog w = .ok (.enter 78 args) w := enters_of Try.func78 (by kernel_rfl) rfl
theorem newLi_own {w : World} {base : Nat} {v : Value} {ls : List (List Int)} (h : NewLi w base v ls) : ∀ r, v.ownBlock = some r → base ≤ r ∧ r < w.heap.size := fun r hr => by
  obtain ⟨vs, ho, -⟩ := h
  exact World.ownsRow.lt ho r hr
theorem newLi_lip {w : World} {base : Nat} {v : Value} {ls : List (List Int)} (h : NewLi w base v ls) : ∃ A c, v = .slice A ls.length c ∧ LiP w w.heap.size A ls.length ls := by
  obtain ⟨vs, h1, h2⟩ := h
  obtain ⟨A, c, e, h3, -⟩ := own_src h1
  exact ⟨A, c, e, h2.lip h3⟩
theorem newLi_blk {w : World} {base : Nat} {v : Value} {ls : List (List Int)} {g : Nat} {t : TypeId} {cs : Array Value} (h : NewLi w base v ls) (hb : Blk w g t cs) (ht : t ≠ 25) : v.ownBlock ≠ some g := by
  obtain ⟨vs, ho, -⟩ := h
  exact own_ne_blk ho hb ht
set_option maxRecDepth 100000 in
set_option maxHeartbeats 4000000 in
theorem all_any (g : Nat) (I : Int) (A : Option Addr) (n c : Nat) (ls : List (List Int)) (w : World) (hd : Desk w g I A n c ls) (hn : n ≤ 1000000) (hbd : ∀ l ∈ ls, isL 8 0 l = true) :
    Calls Try.prog 53 #[.pointer (some ⟨g, 0, none⟩)] w fun e w' => ∃ A' n' c', e = .returned (.slice A' n' c') ∧ (n' = 0 → A' = none ∧ c' = 0) ∧ LiF w' w.heap.size w'.heap.size A' n' (allP ls) ∧ Below w.heap.size w w' := by
  have hlen := hid hd.2.1
  have HL := hid hd.2
  have HBD := hid hbd
  obtain ⟨W1, hW1⟩ : ∃ W1, w.alloc (.cells #[.slice none 0 0] 25) = W1 := ⟨_, rfl⟩
  have hb1 : Below w.heap.size w W1 := by rw [← hW1]; exact (Below.refl _ _).alloc (Nat.le_refl _) _
  have hd1 := hd.below hb1
  have c0 : W1.cell? ⟨g, 0, none⟩ = some (.int .i64 I) := hd1.1.cell 0
  have c1 : W1.cell? ⟨g, 1, none⟩ = some (.slice A n c) := hd1.1.cell 1
  have lg := hd1.1.lt
  have H0 : Hid (LiF W1 w.heap.size W1.heap.size (some ⟨w.heap.size, 0, none⟩) 1 (allP (ls.take 0))) := hid ⟨rfl, fun _ b off e => (by cases e; exact Nat.le_refl _), [.slice none 0 0], ⟨rfl, fun _ => ⟨w.heap.size, 0, rfl, by rw [← hW1]; simp, fun j u hu => by
      rw [← hW1, Nat.zero_add, (Blk.new' rfl : Blk _ w.heap.size 25 #[.slice none 0 0]).cell]; simpa using hu⟩⟩, fun k l hk => by
      have hk0 : k = 0 := by
        have := (List.getElem?_eq_some_iff.1 hk).1
        simp [allP] at this; omega
      subst hk0
      have : l = [] := by simpa [allP] using hk.symm
      subst this
      exact ⟨none, 0, 0, rfl, Sl.none_, fun _ _ e => by cases e⟩⟩
  clear hd hbd hd1
  go_enter Try.func53, Try.ntmps53
  go_wp2
  go_loopw [3, 20] (fun v i wr => ∃ (k m c' : Nat) (A' : Option Addr), k ≤ n ∧ i = .int .i64 k ∧ v = .slice A' m c' ∧ Hid (m = 0 → A' = none ∧ c' = 0) ∧ Hid (LiF wr w.heap.size wr.heap.size A' m (allP (ls.take k))) ∧ Below w.heap.size w wr) (fun _ i _ => n - (intOf i).toNat)
  case atStart => exact ⟨0, 1, 1, _, by omega, rfl, rfl, hid (fun h => by omega), H0, hb1⟩
  case round =>
    clear H0 hb1 hW1 c0 c1 lg
    obtain ⟨k, m, c', A', hk, rfl, rfl, hnil, hout, hbw⟩ := hrel
    have hszw := hbw.size
    by_cases hlt : k < n
    · obtain ⟨b, off, x, A2, m2, c2, rfl, hb, hm, c0, hin⟩ := (HL.out.below hbw hszw).at_ hlt
      have hlti : (k : Int) < n := by omega
      have hxv := HBD.out x (List.mem_of_getElem? hm)
      have Hx := hid (isL_bd hxv)
      have hx8 : m2 ≤ 8 := by have := isL_len8 hxv (by omega); have := hin.len; omega
      have hxl := hid hin.len
      have hstep := hid (allP_take hm)
      obtain ⟨out, hout'⟩ : ∃ out, allP (ls.take k) = out := ⟨_, rfl⟩
      have hol : out.length ≤ 256 := by rw [← hout']; exact allP_len _
      have hoL : Hid (∀ y ∈ out, isL 8 0 y = true) := hid (by rw [← hout']; exact allP_isL _)
      rw [hout'] at hout hstep
      have hom := hid hout.out.1
      have hm256 : m ≤ 256 := by have := hom.out; omega
      have HI := hid hin
      obtain ⟨W0, hW0⟩ : ∃ W0 : World, W0 = wr := ⟨_, rfl⟩
      rw [← hW0] at hout HI hbw hszw c0 hb ⊢
      clear hm hin hxv hout' hW0
      go_wp2
      clear c0
      go_loopw [6, 26] (fun v i wr => ∃ j : Nat, j ≤ m ∧ i = .int .i64 j ∧ Hid (NewLi wr W0.heap.size v (stepL (out.take j) x)) ∧ Below W0.heap.size W0 wr) (fun _ i _ => m - (intOf i).toNat)
      case atStart => exact ⟨0, by omega, rfl, hid (NewLi.nil _ _), Below.refl _ _⟩
      case round =>
        obtain ⟨j, hj, rfl, hN, hb0⟩ := hrel
        have hsz0 := hb0.size
        by_cases hltj : j < m
        · obtain ⟨b3, o3, y, A3, m3, c3, rfl, hb3, hy, q4, hin3, hA3⟩ := hout.out.lip.at_ hltj
          have q0 : wr.cell? ⟨b3, o3 + j, none⟩ = some (.slice A3 m3 c3) := (hb0.cell (p := ⟨b3, o3 + j, none⟩) hb3).trans q4
          have hltji : (j : Int) < m := by omega
          have hyv := hoL.out y (List.mem_of_getElem? hy)
          have hyb := hid (isL_bd hyv)
          have hy256 := hid (bitsL_lt (n := 8) hyv)
          have hm38 : m3 ≤ 1000000 := by have := isL_len8 hyv (by omega); have := hin3.len; omega
          have hst := hid (stepL_take (l := x) hy)
          have hA30 := hid hA3
          have hI30 := hid hin3
          have hHI := hid (HI.out.below hb0 hsz0)
          have hlen8 : Hid ((stepL (out.take j) x).length ≤ 2048) := hid (by
            have h1 := stepL_len (l := x) (by rw [hxl.out]; exact hx8) (out.take j)
            have h2 := List.length_take_le j out
            have := hom.out
            omega)
          have hb3r : b3 < wr.heap.size := by omega
          clear hy hin3 hyv hA3 q4
          go_wp2_with (fail)
          refine (marked_any A3 m3 c3 y _ (hI30.out.below hb0 hsz0) hm38 hyb.out).mono ?_
          rintro e w1 ⟨rfl, hb4⟩
          have hbe1 := hb0.trans (hb4.mono hsz0)
          have hN1 := hid (hN.out.below hb4)
          have hsz1 := hb4.size
          clear hb4 q0
          obtain ⟨W2, hW2⟩ : ∃ W2, w1.alloc (.cells (mkB (bitsL y)) 57) = W2 := ⟨_, rfl⟩
          have hb12 : Below w1.heap.size w1 W2 := by rw [← hW2]; exact (Below.refl _ _).alloc (Nat.le_refl _) _
          have hbe2 := hbe1.trans (hb12.mono hbe1.size)
          have hN2 := hid (hN1.out.below hb12)
          have B9 : Hid (Blk W2 w1.heap.size 57 (mkB (bitsL y))) := hid (by rw [← hW2]; exact Blk.new' rfl)
          have HI2 := hid (HI.out.below hbe2 hbe2.size)
          have hI32 := hid (hI30.out.below hbe2 hbe2.size)
          have hsz2 := hbe2.size
          have hcc := conFI_any 78 #[.pointer (some ⟨w1.heap.size, 0, none⟩)] enAll1 (inB (bitsL y)) A2 m2 c2 x W2 HI2.out (by omega) (fun z hz => all1_any z (bitsL y) _ _ B9.out (Hx.out z hz).1 (Hx.out z hz).2)
          have hgo : Hid (goOn1 x y = if x.any (inB (bitsL y)) then [y] else x.map fun i => listed (bitsL y ||| 2 ^ i.toNat) 8) := rfl
          obtain ⟨T9, hT9⟩ : ∃ T, w1.heap.size = T := ⟨_, rfl⟩
          rw [hT9] at B9 hcc
          have hT9w : W0.heap.size ≤ T9 := by have := hbe1.size; omega
          unfold mkB at hW2 ⊢
          cases hany : x.any (inB (bitsL y))
          · rw [hany] at hcc hgo
            simp only [Bool.false_eq_true, if_false] at hgo
            clear hany hb0 hbe1 hb12 hN hN1 hHI hsz0 hsz1
            go_wp2_with (go_at_call 69; refine hcc.mono ?_; rintro e w3 ⟨rfl, rfl⟩)
            have HB9 := hid B9.out
            clear hW2 hcc
            go_loopw [6, 41] (fun v i wr => ∃ q : Nat, q ≤ m2 ∧ i = .int .i64 q ∧ Hid (NewLi wr W0.heap.size v (stepL (out.take j) x ++ (x.take q).map fun i => listed (bitsL y ||| 2 ^ i.toNat) 8)) ∧ Hid (Blk wr T9 57 (mkB (bitsL y))) ∧ Below W0.heap.size W0 wr) (fun _ i _ => m2 - (intOf i).toNat)
            case atStart => exact ⟨0, by omega, rfl, hid (by simpa using hN2.out), B9, hbe2⟩
            case round =>
              clear HB9 hN2 HI2 hI32 hsz2 hbe2
              obtain ⟨q, hq, rfl, hNq, hBq, hbq⟩ := hrel
              have hszq := hbq.size
              by_cases hltq : q < m2
              · have hltqi : (q : Int) < m2 := by omega
                obtain ⟨bx, ox, z, rfl, hbx, hz, qz⟩ := (HI.out.below hbq hszq).at_ hltq
                obtain ⟨z0, z8⟩ := Hx.out z (List.mem_of_getElem? hz)
                obtain ⟨zn, rfl⟩ : ∃ zn : Nat, z = zn := ⟨z.toNat, by omega⟩
                have hz8 : zn < 8 := by omega
                have hz8i : (zn : Int) < 8 := by omega
                have hnx : Hid ((x.take (q + 1)).map (fun i => listed (bitsL y ||| 2 ^ i.toNat) 8) = (x.take q).map (fun i => listed (bitsL y ||| 2 ^ i.toNat) 8) ++ [listed (bitsL y ||| 2 ^ zn) 8]) := hid (by
                  rw [List.take_add_one, hz, List.map_append]; simp)
                have hlenq : Hid ((stepL (out.take j) x ++ (x.take q).map fun i => listed (bitsL y ||| 2 ^ i.toNat) 8).length ≤ 1000000) := hid (by
                  rw [List.length_append, List.length_map, List.length_take]
                  have := hlen8.out
                  omega)
                obtain ⟨d0, d1, d2, d3, d4, d5, d6, d7⟩ := load8 hBq.out
                have l9 := hBq.out.lt
                obtain ⟨W5, hW5⟩ : ∃ W5, wr.alloc (.cells (mkB (bitsL y)) 57) = W5 := ⟨_, rfl⟩
                have hb15 : Below wr.heap.size wr W5 := by rw [← hW5]; exact (Below.refl _ _).alloc (Nat.le_refl _) _
                have B12 : Blk W5 wr.heap.size 57 (mkB (bitsL y)) := by rw [← hW5]; exact Blk.new' rfl
                obtain ⟨W6, hW6⟩ : ∃ W6, W5.setCell ⟨wr.heap.size, zn, none⟩ (.int .i64 1) = W6 := ⟨_, rfl⟩
                have B126 : Blk W6 wr.heap.size 57 (mkB (bitsL y ||| 2 ^ zn)) := by rw [← hW6, ← mkB_on hz8]; exact B12.set_ zn _
                have hb16 : Below wr.heap.size wr W6 := by rw [← hW6]; exact hb15.setCell (by simp) _
                have hbe6 := hbq.trans (hb16.mono hszq)
                have hN6 := hid (hNq.out.below hb16)
                have hB6 := hid (hBq.out.below hb16 l9)
                have k0 : ∃ v, W5.cell? ⟨wr.heap.size, zn, none⟩ = some v := ⟨_, (B12.cell zn).trans (mkB_at hz8)⟩
                obtain ⟨vv, k0⟩ := k0
                have f0 := B12.frozen zn
                have l12 := B12.lt
                obtain ⟨e0, e1, e2, e3, e4, e5, e6, e7⟩ := load8 B126
                have l126 := B126.lt
                have hz6 := hbe6.size
                have hLA := @list_any (bitsL y ||| 2 ^ zn)
                unfold mkB at hLA hW5
                have HLA := hid hLA
                clear hLA hb15 B12 B126 hb16 hz hNq
                go_wp2_with (fail)
                refine (HLA.out _).mono ?_
                rintro e V1 ⟨A1, n1, c1', rfl, hc1, hn1, hin1, hfr1, hb10⟩
                have hbV1 := hbe6.trans (hb10.mono hz6)
                have hN7 := hid (hN6.out.below hb10)
                have hB7 := hid (hB6.out.below hb10 hB6.out.lt)
                have hzV := hbV1.size
                have hW6V := hb10.size
                have HI1 := hid hin1
                have Hfr := hid hfr1
                have hin2 : ∀ b off, A1 = some ⟨b, off, none⟩ → b < V1.heap.size := ins_lt hin1 (fun h => (hn1 h).1)
                have Hin2 := hid hin2
                have hown := fun r hr => (newLi_own hN6.out r hr).2
                have Hown := hid hown
                clear hin1 hfr1 hb10 hn1 hc1 hin2 hown d0 d1 d2 d3 d4 d5 d6 d7 e0 e1 e2 e3 e4 e5 e6 e7 k0 f0
                have hb5 : Below W0.heap.size W0 (V1.alloc (.cells #[.slice A1 n1 c1'] 25)) := hbV1.alloc hzV _
                have hN8 : Hid (NewLi (V1.alloc (.cells #[.slice A1 n1 c1'] 25)) W0.heap.size u6 (stepL (out.take j) x ++ (x.take q).map fun i => listed (bitsL y ||| 2 ^ i.toNat) 8)) := hid (hN7.out.below ((Below.refl _ _).alloc (Nat.le_refl _) _))
                have hB8 : Hid (Blk (V1.alloc (.cells #[.slice A1 n1 c1'] 25)) T9 57 (mkB (bitsL y))) := hid (hB7.out.alloc _)
                go_wp2_with (at_builtin; refine newLi_append rfl (by rfl) _ _ rfl W0.heap.size _ _ rfl hN8.out V1.heap.size A1 n1 c1' (listed (bitsL y ||| 2 ^ zn) 8) rfl (Blk.new' rfl) (HI1.out.below ((Below.refl _ _).alloc (Nat.le_refl _) _) (by simp)) (fun b' off' e' => ⟨by have := Hin2.out b' off' e'; simp; omega, fun e3 => by have h1 := Hfr.out b' off' e'; have h2 := Hown.out b' e3; omega⟩) hlenq.out hb5.size ?_; intro v4 w4 hn4 hg4 hat4)
                have hb9 : Below W0.heap.size W0 w4 := hb5.grown hg4 hb5.size (fun r hr => (newLi_own hN8.out r hr).1)
                have hB9 : Blk w4 T9 57 (mkB (bitsL y)) := hB8.out.grown hg4 (fun e => by
                  have hne := newLi_blk hN8.out hB8.out (by decide)
                  exact hne e.symm)
                have hn5 : Hid (NewLi w4 W0.heap.size v4 (stepL (out.take j) x ++ (x.take (q + 1)).map fun i => listed (bitsL y ||| 2 ^ i.toNat) 8)) := hid (by rw [hnx.out, ← List.append_assoc]; exact hn4)
                have hB10 : Hid (Blk w4 T9 57 (mkB (bitsL y))) := hid hB9
                (first | exact ⟨⟨q + 1, by omega, by go_num, hn5, hB10, hb9⟩, (by first | (simp [intOf]; omega) | (simp [intOf]; done))⟩ | (refine ⟨?_, ?_⟩; (focus ((repeat apply Exists.intro); refine ⟨?_, rfl⟩; exact ⟨q + 1, by omega, by go_num, hn5, hB10, hb9⟩)); (first | (simp [intOf]; omega) | (simp [intOf]; done))))
              · obtain rfl : m2 = q := by omega
                have hfin : Hid (stepL (out.take (j + 1)) x = stepL (out.take j) x ++ (x.take m2).map fun i => listed (bitsL y ||| 2 ^ i.toNat) 8) := hid (by
                  rw [hst.out, hgo.out, List.take_of_length_le (l := x) (by rw [hxl.out]; exact Nat.le_refl _)])
                go_wp2
                exact ⟨⟨j + 1, by omega, by go_num, hid (by rw [hfin.out]; exact hNq.out), hbq⟩, by simp [intOf]; omega⟩
          · rw [hany] at hcc hgo
            simp only [if_true] at hgo
            have hst2 : Hid (stepL (out.take (j + 1)) x = stepL (out.take j) x ++ [y]) := hid (by rw [hst.out, hgo.out])
            clear hany hb0 hbe1 hb12 hN hN1 hHI hsz0 hsz1
            have hb5 : Below W0.heap.size W0 (W2.alloc (.cells #[.slice A3 m3 c3] 25)) := hbe2.alloc hsz2 _
            have hN5 : Hid (NewLi (W2.alloc (.cells #[.slice A3 m3 c3] 25)) W0.heap.size u6 (stepL (out.take j) x)) := hid (hN2.out.below ((Below.refl _ _).alloc (Nat.le_refl _) _))
            go_wp2_with (first | (go_at_call 69; refine hcc.mono ?_; rintro e w3 ⟨rfl, rfl⟩) | (at_builtin; refine newLi_append rfl (by rfl) _ _ rfl W0.heap.size _ _ rfl hN5.out W2.heap.size A3 m3 c3 y rfl (Blk.new' rfl) (hI30.out.below hb5 hb5.size) (fun b' off' e' => ⟨by have := hA30.out b' off' e'; simp; omega, fun e3 => by have h1 := hA30.out b' off' e'; have h2 := (newLi_own hN5.out b' e3).1; omega⟩) (by have := hlen8.out; omega) hb5.size ?_; intro v4 w4 hn4 hg4 hat4))
            have hb6 : Below W0.heap.size W0 w4 := hb5.grown hg4 hb5.size (fun r hr => (newLi_own hN5.out r hr).1)
            exact ⟨⟨j + 1, by omega, by go_num, hid (by rw [hst2.out]; exact hn4), hb6⟩, by simp [intOf]; omega⟩
        · obtain rfl : m = j := by omega
          have hfin : Hid (stepL (out.take m) x = stepL out x) := hid (by rw [List.take_of_length_le (by rw [hom.out]; exact Nat.le_refl _)])
          obtain ⟨A4, c4, rfl, hl4⟩ := newLi_lip hN.out
          rw [hfin.out] at hl4
          have HL4 := hid hl4
          have hl4n : (stepL out x).length ≤ 1000000 := by
            have h1 := stepL_len (l := x) (by rw [hxl.out]; exact hx8) out
            have := hom.out
            omega
          have hsv := stepL_isL (l := x) hoL.out
          obtain ⟨n4, hn4⟩ : ∃ n4, (stepL (out.take m) x).length = n4 := ⟨_, rfl⟩
          have Hn4 : Hid ((stepL out x).length = n4) := hid (by rw [← hfin.out]; exact hn4)
          rw [hn4]
          rw [Hn4.out] at HL4 hl4n
          have hle := hid (fun W h => least_any A4 n4 c4 (stepL out x) W h hl4n hsv)
          clear hl4 hN hsv hn4
          go_wp2_with (go_at_call 67; refine (hle.out _ HL4.out.lis).mono ?_; rintro e w5 ⟨A5, n5, c5, rfl, hc5, hl5, hb5⟩)
          have hbe5 := hbw.trans ((hb0.trans (hb5.mono hsz0)).mono hszw)
          exact ⟨⟨k + 1, n5, c5, A5, by omega, by go_num, rfl, hid hc5, hid (by rw [hstep.out]; exact hl5.mono (by omega)), hbe5⟩, by simp [intOf]; omega⟩
    · obtain rfl : k = n := by omega
      have hfin : Hid (allP (ls.take k) = allP ls) := hid (by rw [List.take_of_length_le (by rw [hlen.out]; exact Nat.le_refl _)])
      have hout2 : Hid (LiF wr w.heap.size wr.heap.size A' m (allP ls)) := hid (by rw [← hfin.out]; exact hout.out)
      go_wp2
      refine bodyPost_ret (v := .slice A' m c') (by first | (simp [results, Try.results53, go_sem]; done) | (simp [results, Try.results53, go_sem, *]; done) | (simp [results, Try.results53, go_sem, World.cell?_setCell_same', *]; done) | (simp [results, Try.results53, go_sem]; first | exact ⟨rfl, rfl⟩ | rfl)) rfl ⟨A', m, c', rfl, hnil.out, hout2.out, hbw⟩
end Go.Proofs.Ytnpilfpackdimaa
/- Plain law: hires that are apart, one after another. -/
namespace Go.Proofs.Ytnpilfpackdimaa
/-- A hire, by its number. -/
def hire (ls : List (List Int)) (i : Int) : List Int := ls.getD i.toNat []
/-- All inns of some hires, by bits. -/
def sB (ls : List (List Int)) (hs : List Int) : Nat := hs.foldl (fun b i => b ||| bitsL (hire ls i)) 0
/-- The next hire goes with those before it. -/
def ap1 (ls : List (List Int)) (hs : List Int) (k : Nat) : Bool := !(hire ls (hs.getD k 0)).isEmpty && !(hire ls (hs.getD k 0)).any fun x => (sB ls (hs.take k)).testBit x.toNat
def apK (ls : List (List Int)) (hs : List Int) (k : Nat) : Bool := (List.range k).all (ap1 ls hs)
def apP (ls : List (List Int)) (hs : List Int) : Bool := apK ls hs hs.length
theorem sB_take {ls : List (List Int)} {hs : List Int} {k : Nat} {i : Int} (h : hs[k]? = some i) : sB ls (hs.take (k + 1)) = sB ls (hs.take k) ||| bitsL (hire ls i) := by
  unfold sB
  rw [List.take_add_one, h, List.foldl_append]; rfl
theorem apK_succ (ls : List (List Int)) (hs : List Int) (k : Nat) : apK ls hs (k + 1) = (apK ls hs k && ap1 ls hs k) := by
  unfold apK
  rw [List.range_succ, List.all_append]; simp
theorem apP_off {ls : List (List Int)} {hs : List Int} {k : Nat} (hk : k < hs.length) (h : ap1 ls hs k = false) : apP ls hs = false := by
  unfold apP apK
  cases h' : (List.range hs.length).all (ap1 ls hs)
  · rfl
  · have := List.all_eq_true.1 h' k (List.mem_range.2 hk)
    rw [h] at this; cases this
theorem ap1_at {ls : List (List Int)} {hs : List Int} {k : Nat} {i : Int} (h : hs[k]? = some i) : ap1 ls hs k = (!(hire ls i).isEmpty && !(hire ls i).any fun x => (sB ls (hs.take k)).testBit x.toNat) := by
  unfold ap1
  rw [List.getD_eq_getElem?_getD, h]; rfl
/-- The longest lists of hires that are apart: the search. -/
def mostL (ls : List (List Int)) : Nat → List Int → Nat → List Int → List Int
  | 0, _, _, out => out
  | r + 1, begun, i, out => mostL ls r begun (i + 1) (if apP ls (begun ++ [(i : Int)]) then (if out.length < (mostL ls r (begun ++ [(i : Int)]) (i + 1) (begun ++ [(i : Int)])).length then mostL ls r (begun ++ [(i : Int)]) (i + 1) (begun ++ [(i : Int)]) else out) else out)
def mostP (ls : List (List Int)) (begun : List Int) (i : Nat) : List Int := mostL ls (ls.length - i) begun i begun
theorem mostL_step (ls : List (List Int)) {n i : Nat} (hi : i < n) (begun out : List Int) : mostL ls (n - i) begun i out = mostL ls (n - (i + 1)) begun (i + 1) (if apP ls (begun ++ [(i : Int)]) then (if out.length < (mostL ls (n - (i + 1)) (begun ++ [(i : Int)]) (i + 1) (begun ++ [(i : Int)])).length then mostL ls (n - (i + 1)) (begun ++ [(i : Int)]) (i + 1) (begun ++ [(i : Int)]) else out) else out) := by
  rw [show n - i = (n - (i + 1)) + 1 by omega]
  rfl
theorem mostL_len (ls : List (List Int)) : ∀ (r : Nat) (begun : List Int) (i : Nat) (out : List Int) (m : Nat), out.length ≤ m → begun.length + r ≤ m → (mostL ls r begun i out).length ≤ m
  | 0, _, _, _, _, h, _ => h
  | r + 1, begun, i, out, m, h, h2 => by
    have h3 := mostL_len ls r (begun ++ [(i : Int)]) (i + 1) (begun ++ [(i : Int)]) m (by simp; omega) (by simp; omega)
    rw [mostL]
    refine mostL_len ls r begun (i + 1) _ m ?_ (by omega)
    split
    · split
      · exact h3
      · exact h
    · exact h
theorem mostP_len (ls : List (List Int)) (begun : List Int) (i : Nat) : (mostP ls begun i).length ≤ begun.length + (ls.length - i) := mostL_len ls _ begun i begun _ (by omega) (by omega)
end Go.Proofs.Ytnpilfpackdimaa
/- Walks: hires that are apart. -/
namespace Go.Proofs.Ytnpilfpackdimaa
open Go.RowKit Go.Shelf
attribute [local go_sem] Oper.semAt_some
set_option maxRecDepth 10000 in
theorem eqZ (W : World) (b : Nat) : (binOp .eql 57 (.agg #[bv b 0, bv b 1, bv b 2, bv b 3, bv b 4, bv b 5, bv b 6, bv b 7]) (.agg #[.int .i64 0, .int .i64 0, .int .i64 0, .int .i64 0, .int .i64 0, .int .i64 0, .int .i64 0, .int .i64 0])).run Try.prog W = .ok (.bool (sameB b 0)) W := by
  have h : (Op.equalIn 10000 57 (.agg #[bv b 0, bv b 1, bv b 2, bv b 3, bv b 4, bv b 5, bv b 6, bv b 7]) (.agg #[.int .i64 0, .int .i64 0, .int .i64 0, .int .i64 0, .int .i64 0, .int .i64 0, .int .i64 0, .int .i64 0])).run Try.prog W = .ok (sameB b 0) W := eqMarks W 9998 b 0
  go_simp
set_option maxRecDepth 100000 in
set_option maxHeartbeats 4000000 in
theorem apart_any (g : Nat) (I : Int) (A B : Option Addr) (n c m d : Nat) (ls : List (List Int)) (hs : List Int) (w : World) (hd : Desk w g I A n c ls) (hs0 : InS w w.heap.size B m hs) (hn : n ≤ 1000000) (hm : m ≤ 1000000) (hbd : ∀ l ∈ ls, isL 8 0 l = true) (hi : ∀ i ∈ hs, 0 ≤ i ∧ i < n) :
    Calls Try.prog 52 #[.pointer (some ⟨g, 0, none⟩), .slice B m d] w fun e w' => e = .returned (.bool (apP ls hs)) ∧ Below w.heap.size w w' := by
  have hmm := hid hs0.len
  have hlen := hid hd.2.1
  have HS := hid hs0
  have HBD := hid hbd
  have HI := hid hi
  obtain ⟨W2, hW2⟩ : ∃ W2, w.alloc (.cells #[.int .i64 0, .int .i64 0, .int .i64 0, .int .i64 0, .int .i64 0, .int .i64 0, .int .i64 0, .int .i64 0] 57) = W2 := ⟨_, rfl⟩
  have b2 : Blk W2 w.heap.size 57 (mkB 0) := by rw [← hW2]; exact Blk.new' rfl
  have hb2 : Below w.heap.size w W2 := by rw [← hW2]; exact (Below.refl _ _).alloc (Nat.le_refl _) _
  have HD := hid hd
  clear hd hs0 hbd hi
  obtain ⟨av, hav⟩ : ∃ av, apP ls hs = av := ⟨_, rfl⟩
  have Hav := hid hav
  rw [hav]
  clear hav
  go_enter Try.func52, Try.ntmps52
  go_wp2
  refine wp_scope_straight ?_
  go_wp2
  refine wp_label ?_
  go_wp2
  go_loopw [12] (fun i wr => ∃ k : Nat, k ≤ m ∧ i = .int .i64 k ∧ Hid (apK ls hs k = true) ∧ Hid (Blk wr w.heap.size 57 (mkB (sB ls (hs.take k)))) ∧ Below w.heap.size w wr) (fun i _ => m - (intOf i).toNat)
  case atStart => exact ⟨0, by omega, rfl, hid rfl, hid b2, hb2⟩
  case round =>
    clear hb2 b2 hW2
    obtain ⟨k, hk, rfl, hok, hB, hbw⟩ := hrel
    have hszw := hbw.size
    by_cases hlt : k < m
    · obtain ⟨b1, o1, hi, rfl, hb1, hm1, c1⟩ := (HS.out.below hbw hszw).at_ hlt
      obtain ⟨i0, in1⟩ := HI.out hi (List.mem_of_getElem? hm1)
      obtain ⟨i, rfl⟩ : ∃ i : Nat, hi = i := ⟨hi.toNat, by omega⟩
      have hin : i < n := by omega
      have hltk : (k : Int) < m := by omega
      have hdw := HD.out.below hbw
      obtain ⟨b2, o2, h, A2, m2, c2, hAe, hb2, hm2, q2w, hin2⟩ := HD.out.2.at_ hin
      subst hAe
      have q2 : wr.cell? ⟨b2, o2 + i, none⟩ = some (.slice A2 m2 c2) := (hbw.cell (p := ⟨b2, o2 + i, none⟩) hb2).trans q2w
      have hb2r : b2 < wr.heap.size := by omega
      have e0 : wr.cell? ⟨g, 1, none⟩ = some (.slice (some ⟨b2, o2, none⟩) n c) := hdw.1.cell 1
      have lg := hdw.1.lt
      have hhv := HBD.out h (List.mem_of_getElem? hm2)
      have hhb := hid (isL_bd hhv)
      have hhn := hid (isL_nodup hhv)
      have hm28 : m2 ≤ 8 := by have := isL_len8 hhv (by omega); have := hin2.len; omega
      have hh2 := hid hin2.len
      have hhire : hire ls (i : Int) = h := by unfold hire; rw [Int.toNat_natCast, List.getD_eq_getElem?_getD, hm2]; rfl
      obtain ⟨S, hS⟩ : ∃ S, sB ls (hs.take k) = S := ⟨_, rfl⟩
      have hap := hid (ap1_at (ls := ls) hm1)
      have hsn := hid (sB_take (ls := ls) hm1)
      rw [hhire, hS] at hap hsn
      rw [hS] at hB
      have hkl : k < hs.length := by rw [hmm.out]; exact hlt
      have Hkl := hid hkl
      clear hm1 hm2 hhv hhire hS hdw hkl q2w
      by_cases hz : m2 = 0
      · subst hz
        have hh0 : h = [] := List.eq_nil_of_length_eq_zero hh2.out
        have hf : Hid (apP ls hs = false) := hid (apP_off Hkl.out (by rw [hap.out, hh0]; rfl))
        clear hin2
        go_wp2
        (try simp only [Exit.noGoto, Exit.inBlock, Exit.then])
        refine bodyPost_ret (v := .bool false) (by first | (simp [results, Try.results52, go_sem]; done) | (simp [results, Try.results52, go_sem, *]; done) | (simp [results, Try.results52, go_sem, World.cell?_setCell_same', *]; done) | (simp [results, Try.results52, go_sem]; first | exact ⟨rfl, rfl⟩ | rfl)) rfl ⟨by rw [← Hav.out, hf.out], hbw⟩
      · have hzi : ((m2 : Int) == 0) = false := by simpa using hz
        have hzi2 : ¬ (m2 : Int) = 0 := by omega
        have hne : Hid (h.isEmpty = false) := hid (by
          cases h with
          | nil => exact absurd hh2.out.symm (by simpa using hz)
          | cons x l => rfl)
        have HI2 := hid hin2
        have HB0 := hid hB.out
        clear hin2 hB
        go_wp2
        clear c1 e0 q2
        go_loopw [35] (fun i wr => ∃ q : Nat, q ≤ m2 ∧ i = .int .i64 q ∧ Hid (h.any (fun x => S.testBit x.toNat) = (h.drop q).any (fun x => S.testBit x.toNat)) ∧ Hid (Blk wr w.heap.size 57 (mkB (S ||| bitsL (h.take q)))) ∧ Below w.heap.size w wr) (fun i _ => m2 - (intOf i).toNat)
        case atStart => exact ⟨0, by omega, rfl, hid (by simp), hid (by simpa [bitsL] using HB0.out), hbw⟩
        case round =>
          clear HB0 hbw hszw
          obtain ⟨q, hq, rfl, hno, hBq, hbq⟩ := hrel
          have lT := hBq.out.lt
          have hszq := hbq.size
          by_cases hltq : q < m2
          · have hltqi : (q : Int) < m2 := by omega
            obtain ⟨bx, ox, z, hAz, hbx, hz', qz⟩ := (HI2.out.below hbq hszq).at_ hltq
            subst hAz
            obtain ⟨z0, z8⟩ := hhb.out z (List.mem_of_getElem? hz')
            obtain ⟨zn, rfl⟩ : ∃ zn : Nat, z = zn := ⟨z.toNat, by omega⟩
            have hz8 : zn < 8 := by omega
            have hz8i : (zn : Int) < 8 := by omega
            have hdr := drop_at hz'
            have k0 := (hBq.out.cell zn).trans (mkB_at hz8)
            have f0 := hBq.out.frozen zn
            have hnt : (bitsL (h.take q)).testBit zn = false := by
              rw [bitsL_test fun x hx => (hhb.out x (List.mem_of_mem_take hx)).1, has_not]
              intro hmem
              obtain ⟨j, hj, hje⟩ := List.getElem_of_mem hmem
              rw [List.getElem_take] at hje
              have hjq : j < q := by
                have := List.length_take_le q h
                omega
              have hjl : j < h.length := by
                rw [List.length_take] at hj; omega
              obtain ⟨hql, hqe⟩ := List.getElem?_eq_some_iff.1 hz'
              have := List.pairwise_iff_getElem.1 hhn.out j q hjl hql hjq
              exact this (hje.trans hqe.symm)
            have hor : (S ||| bitsL (h.take q)).testBit zn = S.testBit zn := by rw [Nat.testBit_or, hnt, Bool.or_false]
            cases ht : S.testBit zn
            · rw [ht] at hor
              rw [bv_f hor] at k0
              have hno2 : Hid (h.any (fun x => S.testBit x.toNat) = (h.drop (q + 1)).any (fun x => S.testBit x.toNat)) := hid (by
                rw [hno.out, hdr, List.any_cons, Int.toNat_natCast, ht, Bool.false_or])
              have hB2 : Hid (Blk (wr.setCell ⟨w.heap.size, zn, none⟩ (.int .i64 1)) w.heap.size 57 (mkB (S ||| bitsL (h.take (q + 1))))) := hid (by
                rw [bitsL_take hz', Int.toNat_natCast, ← Nat.or_assoc, ← mkB_on hz8]
                exact hBq.out.set_ zn _)
              have hb2' : Below w.heap.size w (wr.setCell ⟨w.heap.size, zn, none⟩ (.int .i64 1)) := hbq.setCell (by simp) _
              clear hnt hor ht hdr hz'
              go_wp2
              exact ⟨⟨q + 1, by omega, by go_num, hno2, hB2, hb2'⟩, by simp [intOf]; omega⟩
            · rw [ht] at hor
              rw [bv_t hor] at k0
              have hf : Hid (apP ls hs = false) := hid (apP_off Hkl.out (by
                rw [hap.out, hne.out, hno.out, hdr, List.any_cons, Int.toNat_natCast, ht]; rfl))
              clear hnt hor ht hdr hz'
              go_wp2
              (try simp only [Exit.noGoto, Exit.inBlock, Exit.then])
              refine bodyPost_ret (v := .bool false) (by first | (simp [results, Try.results52, go_sem]; done) | (simp [results, Try.results52, go_sem, *]; done) | (simp [results, Try.results52, go_sem, World.cell?_setCell_same', *]; done) | (simp [results, Try.results52, go_sem]; first | exact ⟨rfl, rfl⟩ | rfl)) rfl ⟨by rw [← Hav.out, hf.out], hbq⟩
          · obtain rfl : m2 = q := by omega
            have hht : h.take m2 = h := List.take_of_length_le (by rw [hh2.out]; exact Nat.le_refl _)
            rw [hht] at hBq
            have hok2 : Hid (apK ls hs (k + 1) = true) := hid (by
              rw [apK_succ, hok.out, hap.out, hne.out, hno.out, List.drop_of_length_le (by rw [hh2.out]; exact Nat.le_refl _)]; rfl)
            rw [← hsn.out] at hBq
            obtain ⟨U, hU⟩ : ∃ U, sB ls (hs.take (k + 1)) = U := ⟨_, rfl⟩
            have hnz : sameB U 0 = false := by
              cases hs0 : sameB U 0
              · rfl
              · exfalso
                unfold sameB at hs0
                cases h with
                | nil => exact absurd hh2.out.symm (by simpa using hz)
                | cons x l =>
                  obtain ⟨x0, x8⟩ := hhb.out x (List.mem_cons_self)
                  have h1 := List.all_eq_true.1 hs0 x.toNat (List.mem_range.2 (by omega))
                  have h2 : U.testBit x.toNat = true := by
                    rw [← hU, hsn.out, Nat.testBit_or, bitsL_test fun y hy => (hhb.out y hy).1, has_iff.2 (by rw [show ((x.toNat : Nat) : Int) = x by omega]; exact List.mem_cons_self), Bool.or_true]
                  rw [h2] at h1
                  simp at h1
            have hZ := eqZ (b := U)
            rw [hnz] at hZ
            obtain ⟨d0, d1, d2, d3, d4, d5, d6, d7⟩ := load8 hBq.out
            rw [hU] at d0 d1 d2 d3 d4 d5 d6 d7
            clear hU hnz hht hno hsn hap
            go_wp2
            exact ⟨⟨k + 1, by omega, by go_num, hok2, hBq, hbq⟩, by simp [intOf]; omega⟩
    · obtain rfl : k = m := by omega
      have hf : Hid (apP ls hs = true) := hid (by have := hok.out; unfold apP; rw [hmm.out]; exact this)
      go_wp2
      (try simp only [Exit.noGoto, Exit.inBlock, Exit.then])
      refine bodyPost_ret (v := .bool true) (by first | (simp [results, Try.results52, go_sem]; done) | (simp [results, Try.results52, go_sem, *]; done) | (simp [results, Try.results52, go_sem, World.cell?_setCell_same', *]; done) | (simp [results, Try.results52, go_sem]; first | exact ⟨rfl, rfl⟩ | rfl)) rfl ⟨by rw [← Hav.out, hf.out], hbw⟩
end Go.Proofs.Ytnpilfpackdimaa
/- Walks: the most hires that are apart. -/
namespace Go.Proofs.Ytnpilfpackdimaa
open Go.RowKit Go.Shelf
attribute [local go_sem] Oper.semAt_some
set_option maxRecDepth 100000 in
set_option maxHeartbeats 4000000 in
theorem most_any (g : Nat) (I : Int) (A : Option Addr) (n c : Nat) (ls : List (List Int)) (hn : n ≤ 1000) (hbd : ∀ l ∈ ls, isL 8 0 l = true) (r : Nat) :
    ∀ (B : Option Addr) (m d : Nat) (begun : List Int) (from_ : Nat) (w : World), n - from_ = r → from_ ≤ n → Desk w g I A n c ls → InS w w.heap.size B m begun → m ≤ d → (m = 0 → B = none ∧ d = 0) → m ≤ from_ → (∀ x ∈ begun, 0 ≤ x ∧ x < n) →
      Calls Try.prog 63 #[.pointer (some ⟨g, 0, none⟩), .slice B m d, .int .i64 from_] w fun e w' => ∃ B' m' d', e = .returned (.slice B' m' d') ∧ InS w' w'.heap.size B' m' (mostP ls begun from_) ∧ Below w.heap.size w w' := by
  induction r using Nat.strongRecOn with
  | _ r ih =>
    intro B m d begun from_ w hr hfn hd hb0 hmd hm0 hmf hbx
    obtain ⟨i0, hi0, hi1, hi2, hi3⟩ := info_parts' infoI
    have I0 := hid hi0; have I1 := hid hi1; have I2 := hid hi2; have I3 := hid hi3
    have hlen := hid hd.2.1
    have hbl := hid hb0.len
    have HB := hid hb0
    have HD := hid hd
    have HX := hid hbx
    have HBD := hid hbd
    have IH := hid ih
    have hlsn : ls.length = n := hd.2.1
    obtain ⟨fin, hfin⟩ : ∃ fin, mostP ls begun from_ = fin := ⟨_, rfl⟩
    have Hfin : Hid (mostL ls (n - from_) begun from_ begun = fin) := hid (by rw [← hfin]; unfold mostP; rw [hlsn])
    rw [hfin]
    clear hi0 hi1 hi2 hi3 hd hb0 hbx ih hfin hlsn
    go_enter Try.func63, Try.ntmps63
    go_wp2
    go_loopw [7, 8] (fun o i wr => ∃ (k m' d' : Nat) (B' : Option Addr) (ol : List Int), from_ ≤ k ∧ k ≤ n ∧ i = .int .i64 k ∧ o = .slice B' m' d' ∧ Hid (InS wr wr.heap.size B' m' ol) ∧ Hid (mostL ls (n - k) begun k ol = fin) ∧ m' ≤ 1000000 ∧ Below w.heap.size w wr) (fun _ i _ => n - (intOf i).toNat)
    case atStart => exact ⟨from_, m, d, B, begun, Nat.le_refl _, hfn, rfl, rfl, HB, Hfin, by omega, Below.refl _ _⟩
    case round =>
      obtain ⟨k, m', d', B', ol, hfk, hk, rfl, rfl, hol, hfn2, hm6, hbw⟩ := hrel
      have hszw := hbw.size
      have hdw := HD.out.below hbw
      have q0 : wr.cell? ⟨g, 0, none⟩ = some (.int .i64 I) := hdw.1.cell 0
      have q1 : wr.cell? ⟨g, 1, none⟩ = some (.slice A n c) := hdw.1.cell 1
      have lg := hdw.1.lt
      clear hdw
      by_cases hlt : k < n
      · have hlti : (k : Int) < n := by omega
        have hst := hid (mostL_step ls hlt begun ol)
        have zk : IntKind.i64.wrap ((k : Int) + 1) = (k : Int) + 1 := IntWalk.i64_in _ (by omega)
        have hol2 := hid hol.out.len
        rcases Nat.eq_zero_or_pos m with h0 | h0
        · obtain ⟨rfl, rfl⟩ := hm0 h0
          have hbe : begun = [] := List.eq_nil_of_length_eq_zero (by rw [hbl.out, h0])
          have Hbe := hid hbe
          clear hbe
          subst h0
          go_wp2_with (at_builtin; refine wpList_append_cap rfl _ _ 25 rfl w.heap.size 3 i0 _ 1 8 underL I0.out I1.out I2.out I3.out rfl _ 0 [] rfl rfl (Or.inl ⟨rfl, rfl⟩) ⟨wr.heap.size, 0, none⟩ 1 1 [.int .i64 (k : Int)] rfl rfl (fun j u hj => World.news_of_block (Blk.new' rfl) j u hj) (by decide) (by unfold maxLen; omega) (by omega) (by simp; omega) ?_; intro cap w3 ho3 hg3 hz3)
          have hb3 : Below w.heap.size w w3 := (hbw.alloc hszw _).grown hg3 (by simp; omega) (fun _ h => by cases h)
          have hb03 : Below wr.heap.size wr w3 := ((Below.refl _ wr).alloc (Nat.le_refl _) _).grown hg3 (by simp) (fun _ h => by cases h)
          have hc3 := own_cap ho3
          have hi3 : InS w3 w3.heap.size (some ⟨wr.heap.size + 1, 0, none⟩) 1 (begun ++ [(k : Int)]) := by have := Sl.of_own ho3; unfold InS; rw [Hbe.out]; simpa [cI] using this
          have HI3 := hid hi3
          have hol3 := hid (hol.out.below hb03 hb03.size)
          have hx3 : Hid (∀ x ∈ begun ++ [(k : Int)], 0 ≤ x ∧ x < n) := hid (fun x hx => by
            rcases List.mem_append.1 hx with h | h
            · exact HX.out x h
            · rw [List.mem_singleton.1 h]; omega)
          have hD3 := hid (HD.out.below hb3)
          have hap := apart_any g I A (some ⟨wr.heap.size + 1, 0, none⟩) n c 1 cap ls (begun ++ [(k : Int)]) w3 hD3.out hi3 (by omega) (by omega) HBD.out hx3.out
          have hz03 := hb3.size
          clear hi3 ho3 hz3 hg3 hb03
          cases hapv : apP ls (begun ++ [(k : Int)])
          · rw [hapv] at hap
            have hst1 := hst.out
            rw [hapv] at hst1
            simp only [Bool.false_eq_true, if_false] at hst1
            have Hst1 := hid hst1
            have HAP := hid hap
            clear hap hst1 hapv
            go_wp2_with (fail)
            refine HAP.out.mono ?_
            rintro e w4 ⟨rfl, hb4⟩
            have hb5 := hb3.trans (hb4.mono hz03)
            have hol4 := hid (hol3.out.below hb4 hb4.size)
            clear hb4
            go_wp2
            (first | exact ⟨⟨k + 1, m', d', B', ol, by omega, by omega, by go_num, rfl, hol4, hid (by rw [← Hst1.out]; exact hfn2.out), hm6, hb5⟩, (by first | (simp [intOf]; omega) | (simp [intOf]; done))⟩ | (refine ⟨?_, ?_⟩; (focus ((repeat apply Exists.intro); refine ⟨?_, rfl⟩; exact ⟨k + 1, m', d', B', ol, by omega, by omega, by go_num, rfl, hol4, hid (by rw [← Hst1.out]; exact hfn2.out), hm6, hb5⟩)); (first | (simp [intOf]; omega) | (simp [intOf]; done))))
          · rw [hapv] at hap
            have hst1 := hst.out
            rw [hapv] at hst1
            simp only [if_true] at hst1
            have Hst1 := hid hst1
            have HAP := hid hap
            have hmp : Hid (mostP ls (begun ++ [(k : Int)]) (k + 1) = mostL ls (n - (k + 1)) (begun ++ [(k : Int)]) (k + 1) (begun ++ [(k : Int)])) := hid (by unfold mostP; rw [hlen.out])
            obtain ⟨ll, hll⟩ : ∃ ll, mostL ls (n - (k + 1)) (begun ++ [(k : Int)]) (k + 1) (begun ++ [(k : Int)]) = ll := ⟨_, rfl⟩
            rw [hll] at Hst1 hmp
            clear hap hst1 hapv hll hst
            go_wp2_with (fail)
            refine HAP.out.mono ?_
            rintro e w4 ⟨rfl, hb4⟩
            have hb5 := hb3.trans (hb4.mono hz03)
            have hol4 := hid (hol3.out.below hb4 hb4.size)
            have hD4 := hid (hD3.out.below hb4)
            have hI4 := hid (HI3.out.below hb4 hb4.size)
            have hz5 := hb5.size
            clear hb4 hb3
            have hk1 : ((k : Int) + 1) = ((k + 1 : Nat) : Int) := by omega
            have Hk1 := hid hk1
            clear hk1
            go_wp2_with (fail)
            rw [Hk1.out]
            refine (IH.out (n - (k + 1)) (by omega) (some ⟨wr.heap.size + 1, 0, none⟩) 1 cap (begun ++ [(k : Int)]) (k + 1) w4 rfl (by omega) hD4.out hI4.out hc3 (fun h => by omega) (by omega) hx3.out).mono ?_
            rw [hmp.out]
            rintro e w5 ⟨B5, m5, d5, rfl, hi5, hb6⟩
            rw [← Hk1.out]
            have hb7 := hb5.trans (hb6.mono hz5)
            have hol5 := hid (hol4.out.below hb6 hb6.size)
            have hm5 : m5 ≤ 1000000 := by
              have h1 := hi5.len
              have h2 := mostP_len ls (begun ++ [(k : Int)]) (k + 1)
              rw [hmp.out, hlen.out, List.length_append, hbl.out] at h2
              simp at h2
              omega
            have hllm := hid hi5.len
            have HI5 := hid hi5
            clear hi5 hb6 hb5
            by_cases hlt5 : m' < m5
            · have hlt5i : (m' : Int) < m5 := by omega
              have hnx : Hid (mostL ls (n - (k + 1)) begun (k + 1) ll = fin) := hid (by rw [← hfn2.out, Hst1.out, if_pos (by rw [hol2.out, hllm.out]; exact hlt5)])
              go_wp2
              (first | exact ⟨⟨k + 1, m5, d5, B5, ll, by omega, by omega, by go_num, rfl, HI5, hnx, hm5, hb7⟩, (by first | (simp [intOf]; omega) | (simp [intOf]; done))⟩ | (refine ⟨?_, ?_⟩; (focus ((repeat apply Exists.intro); refine ⟨?_, rfl⟩; exact ⟨k + 1, m5, d5, B5, ll, by omega, by omega, by go_num, rfl, HI5, hnx, hm5, hb7⟩)); (first | (simp [intOf]; omega) | (simp [intOf]; done))))
            · have hlt5i : ¬ (m' : Int) < m5 := by omega
              have hnx : Hid (mostL ls (n - (k + 1)) begun (k + 1) ol = fin) := hid (by rw [← hfn2.out, Hst1.out, if_neg (by rw [hol2.out, hllm.out]; exact hlt5)])
              go_wp2
              (first | exact ⟨⟨k + 1, m', d', B', ol, by omega, by omega, by go_num, rfl, hol5, hnx, hm6, hb7⟩, (by first | (simp [intOf]; omega) | (simp [intOf]; done))⟩ | (refine ⟨?_, ?_⟩; (focus ((repeat apply Exists.intro); refine ⟨?_, rfl⟩; exact ⟨k + 1, m', d', B', ol, by omega, by omega, by go_num, rfl, hol5, hnx, hm6, hb7⟩)); (first | (simp [intOf]; omega) | (simp [intOf]; done))))
        · obtain ⟨b2, o2, rfl, hb2'⟩ := ins_some HB.out h0
          have hfull : Hid (Full (wr.alloc (.cells #[.int .i64 (k : Int)] 3)) (.slice (some ⟨b2, o2, none⟩) m m) m (begun.flatMap cI)) := hid (Or.inr ⟨_, rfl, fun j u hj => by
            obtain ⟨b', o', e, hb', hc'⟩ := (HB.out.below hbw hszw).2 h0
            cases e
            rw [add_at]
            exact (World.cell?_alloc_lt _ _ _ hb').trans (hc' j u hj)⟩)
          have hfl : Hid ((begun.flatMap cI).length = m * 1) := hid (by rw [flatI_len', hbl.out, Nat.mul_one])
          go_wp2_with (at_builtin; refine wpList_append_cap rfl _ _ 25 rfl w.heap.size 3 i0 _ 1 8 underL I0.out I1.out I2.out I3.out rfl _ m (begun.flatMap cI) rfl hfl.out hfull.out ⟨wr.heap.size, 0, none⟩ 1 1 [.int .i64 (k : Int)] rfl rfl (fun j u hj => World.news_of_block (Blk.new' rfl) j u hj) (by decide) (by unfold maxLen; omega) (by omega) (by simp; omega) ?_; intro cap w3 ho3 hg3 hz3)
          have hb3 : Below w.heap.size w w3 := (hbw.alloc hszw _).grown hg3 (by simp; omega) (fun _ h => by cases h)
          have hb03 : Below wr.heap.size wr w3 := ((Below.refl _ wr).alloc (Nat.le_refl _) _).grown hg3 (by simp) (fun _ h => by cases h)
          have hc3 := own_cap ho3
          have hi3 : InS w3 w3.heap.size (some ⟨wr.heap.size + 1, 0, none⟩) (m + 1) (begun ++ [(k : Int)]) := by have := Sl.of_own ho3; unfold InS; rw [List.flatMap_append]; simpa [cI] using this
          have HI3 := hid hi3
          have hol3 := hid (hol.out.below hb03 hb03.size)
          have hx3 : Hid (∀ x ∈ begun ++ [(k : Int)], 0 ≤ x ∧ x < n) := hid (fun x hx => by
            rcases List.mem_append.1 hx with h | h
            · exact HX.out x h
            · rw [List.mem_singleton.1 h]; omega)
          have hD3 := hid (HD.out.below hb3)
          have hap := apart_any g I A (some ⟨wr.heap.size + 1, 0, none⟩) n c (m + 1) cap ls (begun ++ [(k : Int)]) w3 hD3.out hi3 (by omega) (by omega) HBD.out hx3.out
          have hz03 := hb3.size
          clear hi3 ho3 hz3 hg3 hb03
          cases hapv : apP ls (begun ++ [(k : Int)])
          · rw [hapv] at hap
            have hst1 := hst.out
            rw [hapv] at hst1
            simp only [Bool.false_eq_true, if_false] at hst1
            have Hst1 := hid hst1
            have HAP := hid hap
            clear hap hst1 hapv
            go_wp2_with (fail)
            refine HAP.out.mono ?_
            rintro e w4 ⟨rfl, hb4⟩
            have hb5 := hb3.trans (hb4.mono hz03)
            have hol4 := hid (hol3.out.below hb4 hb4.size)
            clear hb4
            go_wp2
            (first | exact ⟨⟨k + 1, m', d', B', ol, by omega, by omega, by go_num, rfl, hol4, hid (by rw [← Hst1.out]; exact hfn2.out), hm6, hb5⟩, (by first | (simp [intOf]; omega) | (simp [intOf]; done))⟩ | (refine ⟨?_, ?_⟩; (focus ((repeat apply Exists.intro); refine ⟨?_, rfl⟩; exact ⟨k + 1, m', d', B', ol, by omega, by omega, by go_num, rfl, hol4, hid (by rw [← Hst1.out]; exact hfn2.out), hm6, hb5⟩)); (first | (simp [intOf]; omega) | (simp [intOf]; done))))
          · rw [hapv] at hap
            have hst1 := hst.out
            rw [hapv] at hst1
            simp only [if_true] at hst1
            have Hst1 := hid hst1
            have HAP := hid hap
            have hmp : Hid (mostP ls (begun ++ [(k : Int)]) (k + 1) = mostL ls (n - (k + 1)) (begun ++ [(k : Int)]) (k + 1) (begun ++ [(k : Int)])) := hid (by unfold mostP; rw [hlen.out])
            obtain ⟨ll, hll⟩ : ∃ ll, mostL ls (n - (k + 1)) (begun ++ [(k : Int)]) (k + 1) (begun ++ [(k : Int)]) = ll := ⟨_, rfl⟩
            rw [hll] at Hst1 hmp
            clear hap hst1 hapv hll hst
            go_wp2_with (fail)
            refine HAP.out.mono ?_
            rintro e w4 ⟨rfl, hb4⟩
            have hb5 := hb3.trans (hb4.mono hz03)
            have hol4 := hid (hol3.out.below hb4 hb4.size)
            have hD4 := hid (hD3.out.below hb4)
            have hI4 := hid (HI3.out.below hb4 hb4.size)
            have hz5 := hb5.size
            clear hb4 hb3
            have hk1 : ((k : Int) + 1) = ((k + 1 : Nat) : Int) := by omega
            have Hk1 := hid hk1
            clear hk1
            go_wp2_with (fail)
            rw [Hk1.out]
            refine (IH.out (n - (k + 1)) (by omega) (some ⟨wr.heap.size + 1, 0, none⟩) (m + 1) cap (begun ++ [(k : Int)]) (k + 1) w4 rfl (by omega) hD4.out hI4.out hc3 (fun h => by omega) (by omega) hx3.out).mono ?_
            rw [hmp.out]
            rintro e w5 ⟨B5, m5, d5, rfl, hi5, hb6⟩
            rw [← Hk1.out]
            have hb7 := hb5.trans (hb6.mono hz5)
            have hol5 := hid (hol4.out.below hb6 hb6.size)
            have hm5 : m5 ≤ 1000000 := by
              have h1 := hi5.len
              have h2 := mostP_len ls (begun ++ [(k : Int)]) (k + 1)
              rw [hmp.out, hlen.out, List.length_append, hbl.out] at h2
              simp at h2
              omega
            have hllm := hid hi5.len
            have HI5 := hid hi5
            clear hi5 hb6 hb5
            by_cases hlt5 : m' < m5
            · have hlt5i : (m' : Int) < m5 := by omega
              have hnx : Hid (mostL ls (n - (k + 1)) begun (k + 1) ll = fin) := hid (by rw [← hfn2.out, Hst1.out, if_pos (by rw [hol2.out, hllm.out]; exact hlt5)])
              go_wp2
              (first | exact ⟨⟨k + 1, m5, d5, B5, ll, by omega, by omega, by go_num, rfl, HI5, hnx, hm5, hb7⟩, (by first | (simp [intOf]; omega) | (simp [intOf]; done))⟩ | (refine ⟨?_, ?_⟩; (focus ((repeat apply Exists.intro); refine ⟨?_, rfl⟩; exact ⟨k + 1, m5, d5, B5, ll, by omega, by omega, by go_num, rfl, HI5, hnx, hm5, hb7⟩)); (first | (simp [intOf]; omega) | (simp [intOf]; done))))
            · have hlt5i : ¬ (m' : Int) < m5 := by omega
              have hnx : Hid (mostL ls (n - (k + 1)) begun (k + 1) ol = fin) := hid (by rw [← hfn2.out, Hst1.out, if_neg (by rw [hol2.out, hllm.out]; exact hlt5)])
              go_wp2
              (first | exact ⟨⟨k + 1, m', d', B', ol, by omega, by omega, by go_num, rfl, hol5, hnx, hm6, hb7⟩, (by first | (simp [intOf]; omega) | (simp [intOf]; done))⟩ | (refine ⟨?_, ?_⟩; (focus ((repeat apply Exists.intro); refine ⟨?_, rfl⟩; exact ⟨k + 1, m', d', B', ol, by omega, by omega, by go_num, rfl, hol5, hnx, hm6, hb7⟩)); (first | (simp [intOf]; omega) | (simp [intOf]; done))))
      · obtain rfl : k = n := by omega
        have hf2 : Hid (ol = fin) := hid (by rw [← hfn2.out, Nat.sub_self]; rfl)
        go_wp2
        refine bodyPost_ret (v := .slice B' m' d') (by first | (simp [results, Try.results63, go_sem]; done) | (simp [results, Try.results63, go_sem, *]; done) | (simp [results, Try.results63, go_sem, World.cell?_setCell_same', *]; done) | (simp [results, Try.results63, go_sem]; first | exact ⟨rfl, rfl⟩ | rfl)) rfl ⟨B', m', d', rfl, by rw [← hf2.out]; exact hol.out, hbw⟩
end Go.Proofs.Ytnpilfpackdimaa
/- Walks: CheckApart, Apart, All, listed. -/
namespace Go.Proofs.Ytnpilfpackdimaa
open Go.RowKit Go.Shelf
attribute [local go_sem] Oper.semAt_some
/-- CheckApart's answer. -/
def capE (I : Int) (ls : List (List Int)) (hs : List Int) : Int := if chkBook I ls ≠ 0 then chkBook I ls else if isL ls.length 0 hs = false then 3 else if apP ls hs = false then 16 else 0
set_option maxRecDepth 100000 in
set_option maxHeartbeats 1600000 in
theorem checkApart_any (A B : Option Addr) (n c m d : Nat) (ls : List (List Int)) (hs : List Int) (I : Int) (w : World) (hl : LiS w w.heap.size A n ls) (hs0 : InS w w.heap.size B m hs) (hn : n ≤ 1000000) (hw : ∀ l ∈ ls, l.length ≤ 1000000) (hm : m ≤ 1000000) :
    Calls Try.prog 21 #[.agg #[.int .i64 I, .slice A n c], .slice B m d] w fun e w' => e = .returned (.int .i64 (capE I ls hs)) ∧ Below w.heap.size w w' := by
  have HL := hid hl
  have HS := hid hs0
  have HW := hid hw
  have hln := hid hl.1
  clear hl hs0 hw
  by_cases he : chkBook I ls = 0
  · obtain ⟨h1, h8, h10, hall⟩ := book_good he
    have HO := hid (fun w h => open_ok A none n c 0 0 ls [] I w h (lis_nil _ _) hn HW.out (by omega) (by simp) (by rw [openE_nil]; exact he))
    have hv : Hid (capE I ls hs = if isL ls.length 0 hs = false then 3 else if apP ls hs = false then 16 else 0) := hid (if_neg (by simpa using he))
    rw [hln.out] at hv
    have hn10 : n ≤ 10 := by rw [← hln.out]; exact h10
    have HR := hid (fun W h => rising_any B m d hs (n : Int) W h hm (by omega) (by omega))
    have H8 := hid (book8 he)
    have He := hid he
    clear he h1 h8 h10 hall
    cases hr : isL (n : Int) 0 hs
    · rw [hr] at hv HR
      clear hr
      go_enter Try.func21, Try.ntmps21
      go_wp2_with (fail)
      refine (HO.out _ (HL.out.below (by repeat' (first | with_reducible assumption | with_reducible exact Below.refl _ _ | refine Below.alloc ?_ ?_ _ | refine Below.setCell ?_ ?_ _ | refine Below.drew ?_ | refine below_drewN ?_ _ | (simp; done) | (simp; omega) | omega)) (by first | (simp; done) | (simp; omega) | omega))).mono ?_
      rintro e w1 ⟨g, rfl, hg, hd, hb1⟩
      have hbel : Below w.heap.size w w1 := Below.trans (by repeat' (first | with_reducible assumption | with_reducible exact Below.refl _ _ | refine Below.alloc ?_ ?_ _ | refine Below.setCell ?_ ?_ _ | refine Below.drew ?_ | refine below_drewN ?_ _ | (simp; done) | (simp; omega) | omega)) (hb1.mono (by first | (simp; done) | (simp; omega) | omega))
      have c1 : w1.cell? ⟨w.heap.size, 1, none⟩ = some (.slice A n c) := (hb1.cell (p := ⟨w.heap.size, 1, none⟩) (by first | (simp; done) | (simp; omega) | omega)).trans (by go_simp)
      have hq0 : w.heap.size < w1.heap.size := (by have := hb1.size; simp at this; omega)
      clear hd hb1
      go_wp2_with (fail)
      refine (HR.out _ (HS.out.below hbel hbel.size)).mono ?_
      rintro e w2 ⟨rfl, hb2⟩
      go_wp2
      refine bodyPost_ret (v := .int .i64 3) (by first | (simp [results, Try.results21, go_sem]; done) | (simp [results, Try.results21, go_sem, *]; done) | (simp [results, Try.results21, go_sem, World.cell?_setCell_same', *]; done) | (simp [results, Try.results21, go_sem]; first | exact ⟨rfl, rfl⟩ | rfl)) rfl ⟨by rw [hv.out]; rfl, hbel.trans (hb2.mono hbel.size)⟩
    · have hri : Hid (∀ i ∈ hs, 0 ≤ i ∧ i < (n : Int)) := hid (isL_bd hr)
      rw [hr] at hv HR
      have HA := hid (fun w g h1 h2 => apart_any g I A B n c m d ls hs w h1 h2 hn hm H8.out hri.out)
      clear hr
      cases ha : apP ls hs
      all_goals
        rw [ha] at hv HA
        clear ha
        go_enter Try.func21, Try.ntmps21
        go_wp2_with (fail)
        refine (HO.out _ (HL.out.below (by repeat' (first | with_reducible assumption | with_reducible exact Below.refl _ _ | refine Below.alloc ?_ ?_ _ | refine Below.setCell ?_ ?_ _ | refine Below.drew ?_ | refine below_drewN ?_ _ | (simp; done) | (simp; omega) | omega)) (by first | (simp; done) | (simp; omega) | omega))).mono ?_
        rintro e w1 ⟨g, rfl, hg, hd, hb1⟩
        have hbel : Below w.heap.size w w1 := Below.trans (by repeat' (first | with_reducible assumption | with_reducible exact Below.refl _ _ | refine Below.alloc ?_ ?_ _ | refine Below.setCell ?_ ?_ _ | refine Below.drew ?_ | refine below_drewN ?_ _ | (simp; done) | (simp; omega) | omega)) (hb1.mono (by first | (simp; done) | (simp; omega) | omega))
        have c1 : w1.cell? ⟨w.heap.size, 1, none⟩ = some (.slice A n c) := (hb1.cell (p := ⟨w.heap.size, 1, none⟩) (by first | (simp; done) | (simp; omega) | omega)).trans (by go_simp)
        have hq0 : w.heap.size < w1.heap.size := (by have := hb1.size; simp at this; omega)
        have HD := hid hd
        clear hd hb1
        go_wp2_with (fail)
        refine (HR.out _ (HS.out.below hbel hbel.size)).mono ?_
        rintro e w2 ⟨rfl, hb2⟩
        have hbe2 := hbel.trans (hb2.mono hbel.size)
        have hd2 := hid (HD.out.below hb2)
        clear hb2 c1
        go_wp2_with (fail)
        refine (HA.out _ _ hd2.out (HS.out.below hbe2 hbe2.size)).mono ?_
        rintro e w3 ⟨rfl, hb3⟩
        have hbe3 := hbe2.trans (hb3.mono hbe2.size)
        go_wp2
      · refine bodyPost_ret (v := .int .i64 16) (by first | (simp [results, Try.results21, go_sem]; done) | (simp [results, Try.results21, go_sem, *]; done) | (simp [results, Try.results21, go_sem, World.cell?_setCell_same', *]; done) | (simp [results, Try.results21, go_sem]; first | exact ⟨rfl, rfl⟩ | rfl)) rfl ⟨by rw [hv.out]; rfl, hbe3⟩
      · refine bodyPost_ret (v := .int .i64 0) (by first | (simp [results, Try.results21, go_sem]; done) | (simp [results, Try.results21, go_sem, *]; done) | (simp [results, Try.results21, go_sem, World.cell?_setCell_same', *]; done) | (simp [results, Try.results21, go_sem]; first | exact ⟨rfl, rfl⟩ | rfl)) rfl ⟨by rw [hv.out]; rfl, hbe3⟩
  · have hv : Hid (capE I ls hs = chkBook I ls) := hid (if_pos he)
    have HO := hid (fun w h => open_bad A none n c 0 0 ls [] I w h (lis_nil _ _) hn HW.out (by omega) (by simp) (by rw [openE_nil]; exact he))
    rw [openE_nil] at HO
    obtain ⟨ev, hev⟩ : ∃ ev, chkBook I ls = ev := ⟨_, rfl⟩
    rw [hev] at hv HO he
    have hbi : (ev != 0) = true := by simpa using he
    clear hev
    go_enter Try.func21, Try.ntmps21
    go_wp2_with (fail)
    refine (HO.out _ (HL.out.below (by repeat' (first | with_reducible assumption | with_reducible exact Below.refl _ _ | refine Below.alloc ?_ ?_ _ | refine Below.setCell ?_ ?_ _ | refine Below.drew ?_ | refine below_drewN ?_ _ | (simp; done) | (simp; omega) | omega)) (by first | (simp; done) | (simp; omega) | omega))).mono ?_
    rintro e w1 ⟨rfl, hb1⟩
    have hbel : Below w.heap.size w w1 := Below.trans (by repeat' (first | with_reducible assumption | with_reducible exact Below.refl _ _ | refine Below.alloc ?_ ?_ _ | refine Below.setCell ?_ ?_ _ | refine Below.drew ?_ | refine below_drewN ?_ _ | (simp; done) | (simp; omega) | omega)) (hb1.mono (by first | (simp; done) | (simp; omega) | omega))
    go_wp2
    refine bodyPost_ret (v := .int .i64 ev) (by first | (simp [results, Try.results21, go_sem]; done) | (simp [results, Try.results21, go_sem, *]; done) | (simp [results, Try.results21, go_sem, World.cell?_setCell_same', *]; done) | (simp [results, Try.results21, go_sem]; first | exact ⟨rfl, rfl⟩ | rfl)) rfl ⟨by rw [hv.out], hbel⟩
theorem make_i64 {L : Nat} (hL : L ≤ 100000) (w0 : World) : (Instr.makeSlice 25 (.int .i64 (L : Int)) (.int .i64 (L : Int))).run Try.prog w0 = .ok (.slice (some ⟨w0.heap.size, 0, none⟩) L L) (w0.alloc (.cells (madeCells #[.int .i64 0] L) 3)) := by
  obtain ⟨i, hi, hz0, hz1, hz2⟩ := info_parts' infoI
  have := run_makeSlice (P := Try.prog) (w := w0) 25 3 i (.int .i64 0) underL hi hz0 .i64 .i64 (L : Int) (L : Int) (by omega) (Int.le_refl _) (by rw [hz1]; omega) (by rw [hz2]; omega) (by omega)
  rw [this, hz1]
  simp
  rfl
theorem cop_src {w : World} {B n : Nat} {A : Option Addr} {xs : List Value} (h : Sl w B 1 A n xs) (hn : 0 < n) {w' : World} (hk : ∀ p : Addr, p.block < B → w'.cell? p = w.cell? p) : ∃ ad, A = some ad ∧ ∀ j v, xs[j]? = some v → w'.cell? (ad.add j) = some v := by
  obtain ⟨b, off, rfl, hb, hc⟩ := h.2 hn
  exact ⟨_, rfl, fun j v hv => by rw [add_at]; exact (hk _ hb).trans (hc j v hv)⟩
theorem splice_all {cur cs : List Value} (h : cs.length = cur.length) : splice cur 0 cs = cs := by
  unfold splice
  rw [List.take_zero, Nat.zero_add, List.drop_of_length_le (by omega)]; simp
def aprV (I : Int) (ls : List (List Int)) : List Int := if chkBook I ls ≠ 0 then [] else mostP ls [] 0
set_option maxRecDepth 100000 in
set_option maxHeartbeats 1600000 in
theorem apartF_any (A : Option Addr) (n c : Nat) (ls : List (List Int)) (I : Int) (w : World) (hl : LiS w w.heap.size A n ls) (hn : n ≤ 1000000) (hw : ∀ l ∈ ls, l.length ≤ 1000000) :
    Calls Try.prog 28 #[.agg #[.int .i64 I, .slice A n c]] w fun e w' => ∃ A' m', e = .returned (.tuple #[.slice A' m' m', .int .i64 (chkBook I ls)]) ∧ InS w' w'.heap.size A' m' (aprV I ls) ∧ Below w.heap.size w w' := by
  have HL := hid hl
  have HW := hid hw
  have hln := hid hl.1
  clear hl hw
  by_cases he : chkBook I ls = 0
  · obtain ⟨h1, h8, h10, hall⟩ := book_good he
    have HO := hid (fun w h => open_ok A none n c 0 0 ls [] I w h (lis_nil _ _) hn HW.out (by omega) (by simp) (by rw [openE_nil]; exact he))
    have hv : Hid (aprV I ls = mostP ls [] 0) := hid (if_neg (by simpa using he))
    have hn10 : n ≤ 10 := by rw [← hln.out]; exact h10
    have H8 := hid (book8 he)
    have HMo := hid (fun g w h => most_any g I A n c ls (by omega) H8.out (n - 0) none 0 0 [] 0 w rfl (by omega) h Sl.none_ (by omega) (fun _ => ⟨rfl, rfl⟩) (by omega) (by simp))
    have hmz : (((0 : Nat) : Int)) = 0 := rfl
    rw [hmz] at HMo
    have hml := mostP_len ls [] 0
    rw [hln.out] at hml
    obtain ⟨mv, hmv⟩ : ∃ mv, mostP ls [] 0 = mv := ⟨_, rfl⟩
    rw [hmv] at hv HMo hml
    have hI3 : (Try.prog.info? 3).map (·.size) = some 1 := by kernel_rfl
    rw [he]
    clear he h1 h8 h10 hall hmv hmz
    go_enter Try.func28, Try.ntmps28
    go_wp2_with (fail)
    refine (HO.out _ (HL.out.below (by repeat' (first | with_reducible assumption | with_reducible exact Below.refl _ _ | refine Below.alloc ?_ ?_ _ | refine Below.setCell ?_ ?_ _ | refine Below.drew ?_ | refine below_drewN ?_ _ | (simp; done) | (simp; omega) | omega)) (by first | (simp; done) | (simp; omega) | omega))).mono ?_
    rintro e w1 ⟨g, rfl, hg, hd, hb1⟩
    have hbel : Below w.heap.size w w1 := Below.trans (by repeat' (first | with_reducible assumption | with_reducible exact Below.refl _ _ | refine Below.alloc ?_ ?_ _ | refine Below.setCell ?_ ?_ _ | refine Below.drew ?_ | refine below_drewN ?_ _ | (simp; done) | (simp; omega) | omega)) (hb1.mono (by first | (simp; done) | (simp; omega) | omega))
    have HD := hid hd
    clear hd hb1
    go_wp2_with (fail)
    refine (HMo.out _ _ HD.out).mono ?_
    rintro e w2 ⟨A7, m, c7, rfl, hi2, hb2⟩
    have hbe2 := hbel.trans (hb2.mono hbel.size)
    have hz6 := hbe2.size
    have Hrl := hid hi2.len
    have HS7 := hid hi2
    have hm10 : m ≤ 10 := by have := hi2.len; simp at hml; omega
    have hmk := @make_i64 m (by omega)
    have hms : (madeCells #[.int .i64 0] m).size = m := by simp [madeCells]
    have hfit : 0 + (mv.flatMap cI).length ≤ (madeCells #[.int .i64 0] m).toList.length := by rw [flatI_len', Hrl.out]; simp [madeCells]
    have hfit2 : (mv.flatMap cI).length = (madeCells #[.int .i64 0] m).toList.length := by rw [flatI_len', Hrl.out]; simp [madeCells]
    clear hi2 hb2 hml
    go_wp2_with (refine wpList_copy_splice rfl _ _ 25 25 rfl 3 underL hI3 (some ⟨w2.heap.size, 0, none⟩) A7 m m m c7 rfl rfl w2.heap.size 0 (madeCells #[.int .i64 0] m).toList 3 (by rw [Array.toArray_toList]; exact heap_alloc_new _ _) (mv.flatMap cI) (by rw [flatI_len', Hrl.out]; exact (Nat.min_self _).symm) (fun h => ⟨rfl, cop_src HS7.out (by rw [flatI_len', Hrl.out] at h; exact h) (fun p hp => World.cell?_alloc_lt _ _ p hp)⟩) hfit (one_flatI _) w.heap.size w (hbe2.alloc hz6 _) hz6 ?_; intro W9 HG9 hb9)
    refine bodyPost_ret (v := .tuple #[.slice (some ⟨w2.heap.size, 0, none⟩) m m, .int .i64 0]) (by first | (simp [results, Try.results28, go_sem]; done) | (simp [results, Try.results28, go_sem, *]; done) | (simp [results, Try.results28, go_sem, World.cell?_setCell_same', *]; done) | (simp [results, Try.results28, go_sem]; first | exact ⟨rfl, rfl⟩ | rfl)) rfl ⟨some ⟨w2.heap.size, 0, none⟩, m, rfl, ?_, hb9⟩
    have hG := HG9.out
    rw [splice_all hfit2] at hG
    have hB9 : Blk W9 w2.heap.size 3 (mv.flatMap cI).toArray := hG
    have := ins_blk hB9 hB9.lt
    rw [hv.out]
    rw [Hrl.out] at this
    exact this
  · have hv : Hid (aprV I ls = []) := hid (if_pos he)
    have HO := hid (fun w h => open_bad A none n c 0 0 ls [] I w h (lis_nil _ _) hn HW.out (by omega) (by simp) (by rw [openE_nil]; exact he))
    rw [openE_nil] at HO
    obtain ⟨ev, hev⟩ : ∃ ev, chkBook I ls = ev := ⟨_, rfl⟩
    rw [hev] at HO he ⊢
    have hbi : (ev != 0) = true := by simpa using he
    clear hev
    go_enter Try.func28, Try.ntmps28
    go_wp2_with (fail)
    refine (HO.out _ (HL.out.below (by repeat' (first | with_reducible assumption | with_reducible exact Below.refl _ _ | refine Below.alloc ?_ ?_ _ | refine Below.setCell ?_ ?_ _ | refine Below.drew ?_ | refine below_drewN ?_ _ | (simp; done) | (simp; omega) | omega)) (by first | (simp; done) | (simp; omega) | omega))).mono ?_
    rintro e w1 ⟨rfl, hb1⟩
    have hbel : Below w.heap.size w w1 := Below.trans (by repeat' (first | with_reducible assumption | with_reducible exact Below.refl _ _ | refine Below.alloc ?_ ?_ _ | refine Below.setCell ?_ ?_ _ | refine Below.drew ?_ | refine below_drewN ?_ _ | (simp; done) | (simp; omega) | omega)) (hb1.mono (by first | (simp; done) | (simp; omega) | omega))
    go_wp2
    refine bodyPost_ret (v := .tuple #[.slice none 0 0, .int .i64 ev]) (by first | (simp [results, Try.results28, go_sem]; done) | (simp [results, Try.results28, go_sem, *]; done) | (simp [results, Try.results28, go_sem, World.cell?_setCell_same', *]; done) | (simp [results, Try.results28, go_sem]; first | exact ⟨rfl, rfl⟩ | rfl)) rfl ⟨none, 0, rfl, by rw [hv.out]; exact Sl.none_, hbel⟩
def allV (I : Int) (ls : List (List Int)) : List (List Int) := if chkBook I ls ≠ 0 then [] else allP ls
theorem lip_nil (w : World) (B : Nat) : LiP w B none 0 [] := ⟨rfl, [], Sl.none_, fun k l h => by simp at h⟩
set_option maxRecDepth 100000 in
set_option maxHeartbeats 1600000 in
theorem allF_any (A : Option Addr) (n c : Nat) (ls : List (List Int)) (I : Int) (w : World) (hl : LiS w w.heap.size A n ls) (hn : n ≤ 1000000) (hw : ∀ l ∈ ls, l.length ≤ 1000000) :
    Calls Try.prog 22 #[.agg #[.int .i64 I, .slice A n c]] w fun e w' => ∃ A' m' c', e = .returned (.tuple #[.slice A' m' c', .int .i64 (chkBook I ls)]) ∧ LiP w' w'.heap.size A' m' (allV I ls) ∧ Below w.heap.size w w' := by
  have HL := hid hl
  have HW := hid hw
  clear hl hw
  by_cases he : chkBook I ls = 0
  · have HO := hid (fun w h => open_ok A none n c 0 0 ls [] I w h (lis_nil _ _) hn HW.out (by omega) (by simp) (by rw [openE_nil]; exact he))
    have hv : Hid (allV I ls = allP ls) := hid (if_neg (by simpa using he))
    have HA := hid (fun g w h => all_any g I A n c ls w h hn (book8 he))
    obtain ⟨mv, hmv⟩ : ∃ mv, allP ls = mv := ⟨_, rfl⟩
    rw [hmv] at hv HA
    rw [he]
    clear he hmv
    go_enter Try.func22, Try.ntmps22
    go_wp2_with (fail)
    refine (HO.out _ (HL.out.below (by repeat' (first | with_reducible assumption | with_reducible exact Below.refl _ _ | refine Below.alloc ?_ ?_ _ | refine Below.setCell ?_ ?_ _ | refine Below.drew ?_ | refine below_drewN ?_ _ | (simp; done) | (simp; omega) | omega)) (by first | (simp; done) | (simp; omega) | omega))).mono ?_
    rintro e w1 ⟨g, rfl, hg, hd, hb1⟩
    have hbel : Below w.heap.size w w1 := Below.trans (by repeat' (first | with_reducible assumption | with_reducible exact Below.refl _ _ | refine Below.alloc ?_ ?_ _ | refine Below.setCell ?_ ?_ _ | refine Below.drew ?_ | refine below_drewN ?_ _ | (simp; done) | (simp; omega) | omega)) (hb1.mono (by first | (simp; done) | (simp; omega) | omega))
    have HD := hid hd
    clear hd hb1
    go_wp2_with (fail)
    refine (HA.out _ _ HD.out).mono ?_
    rintro e w2 ⟨A7, m, c7, rfl, -, hi2, hb2⟩
    have HI := hid hi2.lip
    clear hi2
    go_wp2
    refine bodyPost_ret (v := .tuple #[.slice A7 m c7, .int .i64 0]) (by first | (simp [results, Try.results22, go_sem]; done) | (simp [results, Try.results22, go_sem, *]; done) | (simp [results, Try.results22, go_sem, World.cell?_setCell_same', *]; done) | (simp [results, Try.results22, go_sem]; first | exact ⟨rfl, rfl⟩ | rfl)) rfl ⟨A7, m, c7, rfl, by rw [hv.out]; exact HI.out, hbel.trans (hb2.mono hbel.size)⟩
  · have hv : Hid (allV I ls = []) := hid (if_pos he)
    have HO := hid (fun w h => open_bad A none n c 0 0 ls [] I w h (lis_nil _ _) hn HW.out (by omega) (by simp) (by rw [openE_nil]; exact he))
    rw [openE_nil] at HO
    obtain ⟨ev, hev⟩ : ∃ ev, chkBook I ls = ev := ⟨_, rfl⟩
    rw [hev] at HO he ⊢
    have hbi : (ev != 0) = true := by simpa using he
    clear hev
    go_enter Try.func22, Try.ntmps22
    go_wp2_with (fail)
    refine (HO.out _ (HL.out.below (by repeat' (first | with_reducible assumption | with_reducible exact Below.refl _ _ | refine Below.alloc ?_ ?_ _ | refine Below.setCell ?_ ?_ _ | refine Below.drew ?_ | refine below_drewN ?_ _ | (simp; done) | (simp; omega) | omega)) (by first | (simp; done) | (simp; omega) | omega))).mono ?_
    rintro e w1 ⟨rfl, hb1⟩
    have hbel : Below w.heap.size w w1 := Below.trans (by repeat' (first | with_reducible assumption | with_reducible exact Below.refl _ _ | refine Below.alloc ?_ ?_ _ | refine Below.setCell ?_ ?_ _ | refine Below.drew ?_ | refine below_drewN ?_ _ | (simp; done) | (simp; omega) | omega)) (hb1.mono (by first | (simp; done) | (simp; omega) | omega))
    go_wp2
    refine bodyPost_ret (v := .tuple #[.slice none 0 0, .int .i64 ev]) (by first | (simp [results, Try.results22, go_sem]; done) | (simp [results, Try.results22, go_sem, *]; done) | (simp [results, Try.results22, go_sem, World.cell?_setCell_same', *]; done) | (simp [results, Try.results22, go_sem]; first | exact ⟨rfl, rfl⟩ | rfl)) rfl ⟨none, 0, 0, rfl, by rw [hv.out]; exact lip_nil _ _, hbel⟩
end Go.Proofs.Ytnpilfpackdimaa
/- Walks: Blame and Fewest. -/
namespace Go.Proofs.Ytnpilfpackdimaa
open Go.RowKit Go.Shelf
attribute [local go_sem] Oper.semAt_some
set_option maxRecDepth 100000 in
set_option maxHeartbeats 1600000 in
theorem blame_any (A : Option Addr) (n c : Nat) (ls : List (List Int)) (I : Int) (w : World) (hl : LiS w w.heap.size A n ls) (hn : n ≤ 1000000) (hw : ∀ l ∈ ls, l.length ≤ 1000000) :
    Calls Try.prog 20 #[.agg #[.int .i64 I, .slice A n c]] w fun e w' => ∃ A' m' c', e = .returned (.tuple #[.slice A' m' c', .int .i64 (bestE I ls)]) ∧ InS w' w'.heap.size A' m' (bestV I ls) ∧ Below w.heap.size w w' := by
  by_cases he : chkBook I ls = 0
  · obtain ⟨J, rfl⟩ : ∃ J : Nat, I = J := ⟨I.toNat, by have := (book_good he).1; omega⟩
    exact blame_ok A n c ls J w hl hn hw he
  · have HL := hid hl
    have HW := hid hw
    clear hl hw
    have hv : Hid (bestV I ls = []) := hid (if_pos he)
    have hve : Hid (bestE I ls = chkBook I ls) := hid (if_pos he)
    have HO := hid (fun w h => open_bad A none n c 0 0 ls [] I w h (lis_nil _ _) hn HW.out (by omega) (by simp) (by rw [openE_nil]; exact he))
    rw [openE_nil] at HO
    obtain ⟨ev, hev⟩ : ∃ ev, chkBook I ls = ev := ⟨_, rfl⟩
    rw [hev] at HO he hve
    have hbi : (ev != 0) = true := by simpa using he
    clear hev
    (refine (callsIn_wide (n := 9)).1 ?_; refine callsIn_of_wp_marks (F := Wd none) Try.func20 rfl trivial ?_ rfl; simp only [Try.ntmps20, List.size_toArray, List.length_cons, List.length_nil, Nat.reduceAdd, Nat.reduceSub, Array.replicate_succ, Array.replicate_zero, List.push_toArray, List.append_toArray, List.nil_append, List.cons_append])
    gi_wp2_with (fail)
    obtain ⟨W0, hW0⟩ : ∃ W0, (((w.alloc (.cells #[.int .i64 I, .slice A n c] 24)).alloc (.cells #[.slice none 0 0] 25)).alloc (.cells #[.int .i64 0] 28)) = W0 := ⟨_, rfl⟩
    have hba : Below w.heap.size w W0 := by rw [← hW0]; exact (by repeat' (first | with_reducible assumption | with_reducible exact Below.refl _ _ | refine Below.alloc ?_ ?_ _ | refine Below.setCell ?_ ?_ _ | refine Below.drew ?_ | refine below_drewN ?_ _ | (simp; done) | (simp; omega) | omega))
    have hz0 : W0.heap.size = w.heap.size + 1 + 1 + 1 := by rw [← hW0]; simp
    have B2 : Blk W0 (w.heap.size + 1) 25 #[.slice none 0 0] := by rw [← hW0]; exact (Blk.new' (by first | (simp; done) | (simp; omega) | omega)).alloc _
    have B3 : Blk W0 (w.heap.size + 1 + 1) 28 #[.int .i64 0] := by rw [← hW0]; exact Blk.new' (by first | (simp; done) | (simp; omega) | omega)
    rw [hW0] at ⊢
    clear hW0
    refine (calls_wd (HO.out _ (HL.out.below hba hba.size))).mono ?_
    rintro e W1 ⟨rfl, hb1⟩
    have hbw := hba.trans (hb1.mono hba.size)
    have hb12 : Below W1.heap.size W1 (W1.alloc (.cells #[.pointer none] 52)) := by exact (Below.refl _ _).alloc (Nat.le_refl _) _
    have hb02 := hb1.trans (hb12.mono hb1.size)
    have hbw2 := hba.trans (hb02.mono hba.size)
    replace B2 := B2.below hb02 B2.lt
    replace B3 := B3.below hb02 B3.lt
    obtain ⟨T2, hT2⟩ : ∃ T, w.heap.size + 1 = T := ⟨_, rfl⟩
    obtain ⟨T3, hT3⟩ : ∃ T, T2 + 1 = T := ⟨_, rfl⟩
    rw [hT2, hT3] at B3
    rw [hT2] at B2
    rw [hT2, hT3]
    have c2 := B2.cell 0
    have l2 := B2.lt
    have f2 := B2.frozen 0
    have c3 := B3.cell 0
    have l3 := B3.lt
    have f3 := B3.frozen 0
    have hT2e : T2 ≠ T3 := by omega
    have hB2 : Blk (((W1.alloc (.cells #[.pointer none] 52)).setCell ⟨T2, 0, none⟩ (.slice none 0 0)).setCell ⟨T3, 0, none⟩ (.int .i64 ev)) T2 25 #[.slice none 0 0] := (B2.set_ 0 _).far (by simp; omega) _
    have hB3 : Blk (((W1.alloc (.cells #[.pointer none] 52)).setCell ⟨T2, 0, none⟩ (.slice none 0 0)).setCell ⟨T3, 0, none⟩ (.int .i64 ev)) T3 28 #[.int .i64 ev] := (B3.far (by simp; omega) _).set_ 0 _
    have hbV : Below w.heap.size w (((W1.alloc (.cells #[.pointer none] 52)).setCell ⟨T2, 0, none⟩ (.slice none 0 0)).setCell ⟨T3, 0, none⟩ (.int .i64 ev)) := (hbw2.setCell (by simp; omega) _).setCell (by simp; omega) _
    have HbV := hid hbV
    have H4 := hid hB2
    have H5 := hid hB3
    clear hb1 hb02 hba hbw hbw2 hb12 B2 B3 hB2 hB3 hbV hz0
    gi_wp2
    refine leavesM_marks [] _ (by simp) (by simp) (fun w' ho => ⟨.tuple #[.slice none 0 0, .int .i64 ev], ?_, ?_⟩)
    · have e2 := (ho.cell ⟨T2, 0, none⟩).trans (H4.out.cell 0)
      have e3 := (ho.cell ⟨T3, 0, none⟩).trans (H5.out.cell 0)
      simp [results, Try.results20, go_sem, *]
    · exact ⟨none, 0, 0, by rw [hve.out], by rw [hv.out]; exact Sl.none_, ho.below HbV.out (by simp)⟩
def fewE (I : Int) (ls : List (List Int)) : Int := bestE I ls
def fewV (I : Int) (ls : List (List Int)) : Int := (bestV I ls).length
set_option maxRecDepth 100000 in
set_option maxHeartbeats 1600000 in
theorem fewest_any (A : Option Addr) (n c : Nat) (ls : List (List Int)) (I : Int) (w : World) (hl : LiS w w.heap.size A n ls) (hn : n ≤ 1000000) (hw : ∀ l ∈ ls, l.length ≤ 1000000) :
    Calls Try.prog 27 #[.agg #[.int .i64 I, .slice A n c]] w fun e w' => e = .returned (.tuple #[.int .i64 (fewV I ls), .int .i64 (fewE I ls)]) ∧ Below w.heap.size w w' := by
  have HL := hid hl
  have HB := hid (fun w h => blame_any A n c ls I w h hn hw)
  clear hl hw
  unfold fewV fewE
  go_enter Try.func27, Try.ntmps27
  go_wp2_with (fail)
  refine (HB.out _ (HL.out.below (by repeat' (first | with_reducible assumption | with_reducible exact Below.refl _ _ | refine Below.alloc ?_ ?_ _ | refine Below.setCell ?_ ?_ _ | refine Below.drew ?_ | refine below_drewN ?_ _ | (simp; done) | (simp; omega) | omega)) (by first | (simp; done) | (simp; omega) | omega))).mono ?_
  rintro e w1 ⟨A', m', c', rfl, hin, hb1⟩
  have hbel : Below w.heap.size w w1 := Below.trans (by repeat' (first | with_reducible assumption | with_reducible exact Below.refl _ _ | refine Below.alloc ?_ ?_ _ | refine Below.setCell ?_ ?_ _ | refine Below.drew ?_ | refine below_drewN ?_ _ | (simp; done) | (simp; omega) | omega)) (hb1.mono (by first | (simp; done) | (simp; omega) | omega))
  have hlen := hid hin.len
  clear hin hb1
  go_wp2
  refine bodyPost_ret (v := .tuple #[.int .i64 (m' : Int), .int .i64 (bestE I ls)]) (by first | (simp [results, Try.results27, go_sem]; done) | (simp [results, Try.results27, go_sem, *]; done) | (simp [results, Try.results27, go_sem, World.cell?_setCell_same', *]; done) | (simp [results, Try.results27, go_sem]; first | exact ⟨rfl, rfl⟩ | rfl)) rfl ⟨by rw [hlen.out], hbel⟩
end Go.Proofs.Ytnpilfpackdimaa
