/- Texts of the proof, laid together by program. -/
import Derived.Test.YtdgllpcfmkjfhaaGreatMb
import Derived.Test.YtdgllpcfmkjfhaaGreatMc
set_option linter.unusedSimpArgs false
set_option linter.unusedVariables false
/- Iterators that pick any entry, each once, while entries are deleted: what they do. Over any program. -/
namespace Go.Proofs.YtdgllpcfmkjfhaaGreat
open Go.RowKit
noncomputable section
section
variable {P : Program} {o : Oper} {rg : Reg} {hp : Hp} {nx wm : Nat} {G : Gh} {E : Env} {w w' : World}

theorem mem_borns {es : List MapEntry} {b : Nat} : b ∈ borns es ↔ ∃ e ∈ es, e.born = b := by rw [borns_eq, List.mem_map]

theorem does_nextF {x : Operand} (ho : o.op = .next x false) {n : Nat} (hx : opv rg x = some (.pointer (some ⟨n, 0, none⟩))) {m : Nat} {rw : Bool} {ks : List Tk} {es : List MapEntry} {cl : Nat} (hg5 : g5 n hp = some (.fit m rw ks es cl .idle)) :
    DoesL P o rg hp nx wm (es.map fun e => ⟨.tuple ⟨[.bool true, e.key, e.val]⟩, s5 n (some (.fit m rw ks es cl (.cur e.born))) hp, nx, min wm n⟩) := by
  intro G E a w hr hg
  obtain ⟨br, base, ext, e, hxv⟩ := (opv_eval hg hx).ptr_inv
  obtain ⟨⟨hst, hk, hbo⟩, bm, x', y', seen, es', em, h1, h2, hfs, hmr, hdv, h3⟩ : BR G E w n br base ext (.fit m rw ks es cl .idle) := hr.blk n _ _ e hg5
  subst h2
  obtain ⟨hseen, b0, hb0, hb0v⟩ := hfs
  subst hseen
  simp only [Bool.or_false] at h3
  rcases run_next_at (P := P) w o.type br bm cl cl _ _ cl h1 h3 (fun f hf => by
      simp only [List.mem_filter] at hf
      obtain ⟨e', he', _, _, hb⟩ := hmr.mem hf.1
      rw [← hb]; exact hbo.1 e' he') (Nat.le_refl _) with ⟨h4, _⟩ | ⟨f, hf, w1, hw1, hrun⟩
  · exfalso
    obtain ⟨e0, he0, hq⟩ := mem_borns.1 hb0
    obtain ⟨f0, hf0, _, _, hq2⟩ := hmr.mem' he0
    have : f0 ∈ (leftOf (es'.filter fun e => !((G n).2.1.contains e.born)).toArray (G n).1.toArray).toList := mem_leftOf.2 ⟨by
      simp only [List.mem_filter]
      refine ⟨hf0, ?_⟩
      simp only [Bool.not_eq_true', List.contains_eq_mem, decide_eq_false_iff_not]
      intro h
      exact hb0v (hq ▸ hq2 ▸ hdv _ h), by
      rw [← hq2, hq]; simpa using hb0v⟩
    have := List.length_pos_of_mem this
    rw [Array.length_toList] at this
    omega
  · obtain ⟨h6, h7⟩ := mem_leftOf.1 hf
    simp only [List.mem_filter] at h6
    obtain ⟨e', he', q1, q2, q3⟩ := hmr.mem h6.1
    have hh : w1.heap = w.heap := by rcases hw1 with rfl | rfl <;> rfl
    have hio : Io w w1 := by rcases hw1 with rfl | rfl <;> exact ⟨rfl, rfl, rfl⟩
    have h1' : w1.heap[br]? = some (.mapIter (some bm) cl (G n).1.toArray cl) := by rw [hh]; exact h1
    have h3' : w1.heap[bm]? = some (.map (es'.filter fun e => !((G n).2.1.contains e.born)).toArray cl) := by rw [hh]; exact h3
    have hne : br ≠ bm := fun h => by rw [h, h3] at h1; cases h1
    refine ⟨_, List.mem_map.2 ⟨e', he', rfl⟩, E, .tuple #[.bool true, f.key, f.val], _, .inl (by simp only [execOp, ho, hxv, Nat.zero_add, Sem.run_bind, hrun, Result.andThen_ok, Sem.run_pure]; rfl), .tup (.cons (.bool _) (.cons q1 (.cons q2 .nil))), ?_⟩
    have hp1 := Post.congr hr wm (w' := w1) hh
    refine hp1.trans (Post.change hp1.rel wm e hg5 (fun m' _ _ _ _ _ hq => ?_) (fun _ => nofun) (by simp [ChangeMaps.setBlock]) (fun r h => setBlock_other w1 br _ r h) ⟨⟨hst, hk, hbo⟩, bm, x', y', (G n).1 ++ [e'.born], es', em, ?_, rfl, ⟨rfl, ?_⟩, hmr, hdv, ?_⟩)
    · injection hq with hq; subst hq; exact hr.own _ _ _ _ _ _ _ hg5
    · rw [setBlock_self _ h1', q3]; simp
    · exact ⟨by rw [q3]; simpa using h7, mem_borns.2 ⟨e', he', rfl⟩⟩
    · rw [setBlock_other w1 br _ bm (Ne.symm hne)]; simpa using h3'

theorem does_nextA {x : Operand} (ho : o.op = .next x false) {n : Nat} (hx : opv rg x = some (.pointer (some ⟨n, 0, none⟩))) {m : Nat} {rw : Bool} {ks : List Tk} {es : List MapEntry} {cl : Nat} (hg5 : g5 n hp = some (.fit m rw ks es cl .idleA)) :
    DoesL P o rg hp nx wm (es.map fun e => ⟨.tuple ⟨[.bool true, e.key, e.val]⟩, s5 n (some (.fit m rw ks es cl (.curA e.born))) hp, nx, min wm n⟩) := by
  intro G E a w hr hg
  obtain ⟨br, base, ext, e, hxv⟩ := (opv_eval hg hx).ptr_inv
  obtain ⟨⟨hst, hk, hbo⟩, bm, x', y', seen, es', em, h1, h2, hfs, hmr, hdv, h3⟩ : BR G E w n br base ext (.fit m rw ks es cl .idleA) := hr.blk n _ _ e hg5
  subst h2
  obtain ⟨⟨hseen, b0, hb0, hb0v⟩, hdel⟩ := hfs
  subst hseen
  simp only [Bool.or_false] at h3
  rcases run_next_at (P := P) w o.type br bm cl cl _ _ cl h1 h3 (fun f hf => by
      simp only [List.mem_filter] at hf
      obtain ⟨e', he', _, _, hb⟩ := hmr.mem hf.1
      rw [← hb]; exact hbo.1 e' he') (Nat.le_refl _) with ⟨h4, _⟩ | ⟨f, hf, w1, hw1, hrun⟩
  · exfalso
    obtain ⟨e0, he0, hq⟩ := mem_borns.1 hb0
    obtain ⟨f0, hf0, _, _, hq2⟩ := hmr.mem' he0
    have : f0 ∈ (leftOf (es'.filter fun e => !((G n).2.1.contains e.born)).toArray (G n).1.toArray).toList := mem_leftOf.2 ⟨by
      simp only [List.mem_filter]
      refine ⟨hf0, ?_⟩
      simp only [Bool.not_eq_true', List.contains_eq_mem, decide_eq_false_iff_not]
      intro h
      exact hb0v (hq ▸ hq2 ▸ hdv _ h), by
      rw [← hq2, hq]; simpa using hb0v⟩
    have := List.length_pos_of_mem this
    rw [Array.length_toList] at this
    omega
  · obtain ⟨h6, h7⟩ := mem_leftOf.1 hf
    simp only [List.mem_filter] at h6
    obtain ⟨e', he', q1, q2, q3⟩ := hmr.mem h6.1
    have hh : w1.heap = w.heap := by rcases hw1 with rfl | rfl <;> rfl
    have hio : Io w w1 := by rcases hw1 with rfl | rfl <;> exact ⟨rfl, rfl, rfl⟩
    have h1' : w1.heap[br]? = some (.mapIter (some bm) cl (G n).1.toArray cl) := by rw [hh]; exact h1
    have h3' : w1.heap[bm]? = some (.map (es'.filter fun e => !((G n).2.1.contains e.born)).toArray cl) := by rw [hh]; exact h3
    have hne : br ≠ bm := fun h => by rw [h, h3] at h1; cases h1
    refine ⟨_, List.mem_map.2 ⟨e', he', rfl⟩, E, .tuple #[.bool true, f.key, f.val], _, .inl (by simp only [execOp, ho, hxv, Nat.zero_add, Sem.run_bind, hrun, Result.andThen_ok, Sem.run_pure]; rfl), .tup (.cons (.bool _) (.cons q1 (.cons q2 .nil))), ?_⟩
    have hp1 := Post.congr hr wm (w' := w1) hh
    refine hp1.trans (Post.change hp1.rel wm e hg5 (fun m' _ _ _ _ _ hq => ?_) (fun _ => nofun) (by simp [ChangeMaps.setBlock]) (fun r h => setBlock_other w1 br _ r h) ⟨⟨hst, hk, hbo⟩, bm, x', y', (G n).1 ++ [e'.born], es', em, ?_, rfl, ⟨⟨rfl, ?_⟩, hdel⟩, hmr, hdv, ?_⟩)
    · injection hq with hq; subst hq; exact hr.own _ _ _ _ _ _ _ hg5
    · rw [setBlock_self _ h1', q3]; simp
    · exact ⟨by rw [q3]; simpa using h7, mem_borns.2 ⟨e', he', rfl⟩⟩
    · rw [setBlock_other w1 br _ bm (Ne.symm hne)]; simpa using h3'

theorem does_nextF_fin {x : Operand} (ho : o.op = .next x false) {n : Nat} (hx : opv rg x = some (.pointer (some ⟨n, 0, none⟩))) {m : Nat} {rw : Bool} {ks : List Tk} {es : List MapEntry} {cl : Nat} (hg5 : g5 n hp = some (.fit m rw ks es cl .fin)) :
    Does P o rg hp nx wm (.tuple ⟨[.bool false]⟩) hp nx wm := .pure fun G E a w hr hg => by
  obtain ⟨br, base, ext, e, hxv⟩ := (opv_eval hg hx).ptr_inv
  obtain ⟨⟨hst, hk, hbo⟩, bm, x', y', seen, es', em, h1, h2, hfs, hmr, hdv, h3⟩ : BR G E w n br base ext (.fit m rw ks es cl .fin) := hr.blk n _ _ e hg5
  subst h2
  obtain ⟨hseen, hall⟩ := hfs
  subst hseen
  simp only [Bool.or_false] at h3
  rcases run_next_at (P := P) w o.type br bm cl cl _ _ cl h1 h3 (fun f hf => by
      simp only [List.mem_filter] at hf
      obtain ⟨e', he', _, _, hb⟩ := hmr.mem hf.1
      rw [← hb]; exact hbo.1 e' he') (Nat.le_refl _) with ⟨_, hrun⟩ | ⟨f, hf, _⟩
  · exact ⟨.tuple #[.bool false], by simp [execOp, ho, hxv, hrun], .tup (.cons (.bool _) .nil)⟩
  · exfalso
    obtain ⟨h6, h7⟩ := mem_leftOf.1 hf
    simp only [List.mem_filter] at h6
    obtain ⟨e', he', q1, q2, q3⟩ := hmr.mem h6.1
    exact h7 (by simpa using hall f.born (mem_borns.2 ⟨e', he', q3⟩))

theorem does_entryF {x : Operand} (ho : o.op = .entry x) {n : Nat} (hx : opv rg x = some (.pointer (some ⟨n, 0, none⟩))) {m : Nat} {rw : Bool} {ks : List Tk} {es : List MapEntry} {cl b : Nat} (hg5 : g5 n hp = some (.fit m rw ks es cl (.cur b)))
    {e : MapEntry} (he : stamp b es = some e) : Does P o rg hp nx wm (.tuple ⟨[e.key, e.val]⟩) hp nx wm := .pure fun G E a w hr hg => by
  obtain ⟨br, base, ext, en, hxv⟩ := (opv_eval hg hx).ptr_inv
  obtain ⟨⟨hst, hk, hbo⟩, bm, x', y', seen, es', em, h1, h2, hfs, hmr, hdv, h3⟩ : BR G E w n br base ext (.fit m rw ks es cl (.cur b)) := hr.blk n _ _ en hg5
  subst h2
  obtain ⟨hseen, hbv, hbb⟩ := hfs
  subst hseen
  simp only [Bool.or_false] at h3
  obtain ⟨hm, hb⟩ := stamp_mem he
  obtain ⟨f, hf, q1, q2, q3⟩ := hmr.mem' hm
  have h1' : w.heap[br]? = some (.mapIter (some bm) cl ((G n).1.toArray.push f.born) cl) := by rw [h1, ← q3, hb]; simp
  have hrun := run_entry_at (P := P) w br bm cl (G n).1.toArray _ cl f h1' h3 (by
    simp only [List.mem_filter]
    refine ⟨hf, ?_⟩
    simp only [Bool.not_eq_true', List.contains_eq_mem, decide_eq_false_iff_not]
    intro h
    exact hbv (hb ▸ q3 ▸ hdv _ h)) (by
    simp only
    refine List.Nodup.sublist (List.Sublist.map _ List.filter_sublist) ?_
    rw [← hmr.borns]; exact hbo.2)
  exact ⟨.tuple #[f.key, f.val], by simp [execOp, ho, hxv, hrun], .tup (.cons q1 (.cons q2 .nil))⟩

theorem does_entryA {x : Operand} (ho : o.op = .entry x) {n : Nat} (hx : opv rg x = some (.pointer (some ⟨n, 0, none⟩))) {m : Nat} {rw : Bool} {ks : List Tk} {es : List MapEntry} {cl b : Nat} (hg5 : g5 n hp = some (.fit m rw ks es cl (.curA b)))
    {e : MapEntry} (he : stamp b es = some e) : Does P o rg hp nx wm (.tuple ⟨[e.key, e.val]⟩) hp nx wm := .pure fun G E a w hr hg => by
  obtain ⟨br, base, ext, en, hxv⟩ := (opv_eval hg hx).ptr_inv
  obtain ⟨⟨hst, hk, hbo⟩, bm, x', y', seen, es', em, h1, h2, hfs, hmr, hdv, h3⟩ : BR G E w n br base ext (.fit m rw ks es cl (.curA b)) := hr.blk n _ _ en hg5
  subst h2
  obtain ⟨⟨hseen, hbv, hbb⟩, hdel⟩ := hfs
  subst hseen
  simp only [Bool.or_false] at h3
  obtain ⟨hm, hb⟩ := stamp_mem he
  obtain ⟨f, hf, q1, q2, q3⟩ := hmr.mem' hm
  have h1' : w.heap[br]? = some (.mapIter (some bm) cl ((G n).1.toArray.push f.born) cl) := by rw [h1, ← q3, hb]; simp
  have hrun := run_entry_at (P := P) w br bm cl (G n).1.toArray _ cl f h1' h3 (by
    simp only [List.mem_filter]
    refine ⟨hf, ?_⟩
    simp only [Bool.not_eq_true', List.contains_eq_mem, decide_eq_false_iff_not]
    intro h
    exact hbv (hb ▸ q3 ▸ hdv _ h)) (by
    simp only
    refine List.Nodup.sublist (List.Sublist.map _ List.filter_sublist) ?_
    rw [← hmr.borns]; exact hbo.2)
  exact ⟨.tuple #[f.key, f.val], by simp [execOp, ho, hxv, hrun], .tup (.cons q1 (.cons q2 .nil))⟩

theorem findE_filter {k : Value} {p : MapEntry → Bool} : ∀ {es : List MapEntry} {i j : Nat} {e : MapEntry} (j' : Nat), findE k es j = some (i, e) → p e = true → (es.map (·.born)).Nodup →
    ∃ i', findE k (es.filter p) j' = some (i', e) ∧ j' ≤ i' ∧ (es.filter p).eraseIdx (i' - j') = es.filter fun x => p x && !(x.born == e.born)
  | [], i, j, e, j', h, _, _ => by cases h
  | a :: es, i, j, e, j', h, hp, hn => by
    rw [findE_cons] at h
    rw [List.map_cons, List.nodup_cons] at hn
    by_cases hc : cellsEq (lcells k) (lcells a.key) = true
    · rw [if_pos hc] at h
      injection h with h; injection h with h1 h2; subst h2
      refine ⟨j', ?_, Nat.le_refl _, ?_⟩
      · rw [List.filter_cons, if_pos hp, findE_cons, if_pos hc]
      · rw [List.filter_cons, if_pos hp, Nat.sub_self, List.eraseIdx_zero, List.tail_cons, List.filter_cons, if_neg (by simp)]
        refine List.filter_congr fun x hx => ?_
        have : x.born ≠ a.born := fun h => hn.1 (List.mem_map.2 ⟨x, hx, h⟩)
        simp [this]
    · rw [if_neg hc] at h
      have hba : a.born ≠ e.born := fun h' => hn.1 (by
        rw [h']
        exact List.mem_map.2 ⟨e, List.mem_of_getElem? (findE_get h).2, rfl⟩)
      cases hpa : p a with
      | true =>
        obtain ⟨i', h1, h2, h3⟩ := findE_filter (j' + 1) h hp hn.2
        refine ⟨i', ?_, by omega, ?_⟩
        · rw [List.filter_cons, if_pos hpa, findE_cons, if_neg hc]; exact h1
        · rw [List.filter_cons, if_pos hpa]
          obtain ⟨d, rfl⟩ : ∃ d, i' = j' + 1 + d := ⟨i' - (j' + 1), by omega⟩
          rw [show j' + 1 + d - j' = d + 1 by omega, List.eraseIdx_cons_succ, List.filter_cons, if_pos (by simp [hpa, hba])]
          rw [show j' + 1 + d - (j' + 1) = d by omega] at h3
          rw [h3]
      | false =>
        obtain ⟨i', h1, h2, h3⟩ := findE_filter j' h hp hn.2
        refine ⟨i', ?_, h2, ?_⟩
        · rw [List.filter_cons, if_neg (by simp [hpa])]; exact h1
        · rw [List.filter_cons, if_neg (by simp [hpa]), h3, List.filter_cons, if_neg (by simp [hpa])]

theorem Post.gone (hr : Rel G E hp nx w) (wm : Nat) {n m : Nat} {x y : Nat × Nat × Nat} {rw : Bool} {ks : List Tk} {es : List MapEntry} {cl : Nat} {st st' : Fs} (e : E n = some x) (em : E m = some y) (g : g5 n hp = some (.fit m rw ks es cl st))
    (hsize : w'.heap.size = w.heap.size) (hother : ∀ r, r ≠ y.1 → w'.heap[r]? = w.heap[r]?) (hk : BR G E w' n x.1 x.2.1 x.2.2 (.fit m rw ks es cl st')) (hio : Io w w' := by first | exact ⟨rfl, rfl, rfl⟩ | assumption) :
    Post G E hp nx wm w E (s5 n (some (.fit m rw ks es cl st')) hp) nx (min wm (min n m)) w' := by
  have gm := hr.own _ _ _ _ _ _ _ g
  have hn := g5_lt g
  have hnm : n ≠ m := fun h => by rw [h, gm] at g; cases g
  have get : ∀ j q, g5 j (s5 n (some (.fit m rw ks es cl st')) hp) = some q → (j = n ∧ q = .fit m rw ks es cl st') ∨ (j ≠ n ∧ g5 j hp = some q) := fun j q h => by
    have hm5 := g5_lt h
    rw [g5_s5 _ _ _ _ hm5 hn] at h
    by_cases h' : j = n
    · rw [if_pos h'] at h; injection h with h; exact .inl ⟨h', h.symm⟩
    · rw [if_neg h'] at h; exact .inr ⟨h', h⟩
  refine ⟨fun _ _ => rfl, ⟨hr.bound, fun j z h => by rw [hsize]; exact hr.lt j z h, fun j z q ej gj => ?_, fun j j' z z' q q' e1 e2 g1 g2 hzz => ?_, fun j j' rw' ks' es' cl' st'' gj => ?_, fun j h => ?_⟩, Nat.le_refl _, Nat.min_le_left _ _,
    ⟨by omega, fun r hr0 hx => hother r (Ne.symm (hx m y _ em gm (by omega))), hio⟩, fun j h h' => ?_, fun j h gj => ?_, fun j z h ej => by rw [hr.bound j h] at ej; cases ej⟩
  · rcases get j q gj with ⟨rfl, rfl⟩ | ⟨hne, gq⟩
    · rw [e] at ej; injection ej with ej; subst ej; exact hk
    · by_cases hjm : j = m
      · subst hjm
        have hfm := hr.blk j z q ej gq
        rw [gm] at gq; injection gq with gq; subst gq
        exact hfm
      · have hb : z.1 ≠ y.1 := fun h => hjm (hr.inj j m z y q _ ej em gq gm h)
        refine (hr.blk j z q ej gq).keep (Ext.refl _) (hother _ hb) fun p rw' ks' es' cl' st'' bm u v hq ep => ?_
        subst hq
        have gp := hr.own j p _ _ _ _ _ gq
        refine hother _ fun h => ?_
        have := hr.inj p m _ _ _ _ ep em gp gm h
        subst this
        rw [gm] at gp; injection gp with gp; injection gp with gp
        exact hne gp.symm
  · obtain ⟨k1, h1⟩ : ∃ k1, g5 j hp = some k1 := by
      rcases get j q g1 with ⟨rfl, _⟩ | ⟨_, h⟩
      · exact ⟨_, g⟩
      · exact ⟨_, h⟩
    obtain ⟨k2, h2⟩ : ∃ k2, g5 j' hp = some k2 := by
      rcases get j' q' g2 with ⟨rfl, _⟩ | ⟨_, h⟩
      · exact ⟨_, g⟩
      · exact ⟨_, h⟩
    exact hr.inj j j' z z' k1 k2 e1 e2 h1 h2 hzz
  · have key : g5 j' hp = some (.fmp j) := by
      rcases get j _ gj with ⟨rfl, h⟩ | ⟨hne, h⟩
      · injection h with h; subst h; exact gm
      · exact hr.own _ _ _ _ _ _ _ h
    rw [g5_s5 _ _ _ _ (g5_lt key) hn, if_neg]
    · exact key
    · intro h; subst h; rw [g] at key; cases key
  · rcases Nat.lt_or_ge j 32768 with h5 | h5
    · have := hr.lt_nx g
      rw [g5_s5 _ _ _ _ h5 hn, if_neg (by omega)]; exact hr.top j h
    · exact g5_far _ _ (by omega)
  · rcases Nat.lt_or_ge j 32768 with h5 | h5
    · rw [g5_s5 _ _ _ _ h5 hn, if_neg (by omega)]
    · rw [g5_far _ _ (by omega), g5_far _ _ (by omega)]
  · rcases Nat.lt_or_ge j 32768 with h5 | h5
    · rw [g5_s5 _ _ _ _ h5 hn, if_neg]
      · exact gj
      · intro h'; subst h'; rw [g] at gj; cases gj
    · exact g5_far _ _ (by omega)

theorem does_deleteF {x y : Operand} {t u : TypeId} (ho : o.op = .call ⟨.builtin .delete, ⟨[x, y]⟩, ⟨[t, u]⟩⟩) {kt et : TypeId} (ht : P.underlying t = some (.map kt et)) {rw : Bool} {ks : List Tk} (hkt : KeyT P kt rw ks) {n m : Nat} (hx : opv rg x = some (.map (some m)))
    {k : Value} (hk : opv rg y = some k) (hkk : okKey rw ks k = true) {es : List MapEntry} {cl b : Nat} (hg5 : g5 n hp = some (.fit m rw ks es cl (.cur b))) {i : Nat} {e : MapEntry} (hf : findE k es 0 = some (i, e)) (hb : e.born = b) :
    Does P o rg hp nx wm (.tuple #[]) (s5 n (some (.fit m rw ks es cl (.gone b))) hp) nx (min wm (min n m)) := fun G E a w hr hg => by
  obtain ⟨cc, hrun⟩ := run_b2 (P := P) (w := w) ho a
  obtain ⟨bm0, base0, ext0, em0, hxv⟩ := (opv_eval hg hx).map_inv
  obtain ⟨z, en⟩ : BR G E w m bm0 base0 ext0 (.fmp n) := hr.blk m _ _ em0 (hr.own _ _ _ _ _ _ _ hg5)
  obtain ⟨⟨hst, hkk', hbo⟩, bm, x', y', seen, es', em, h1, h2, hfs, hmr, hdv, h3⟩ : BR G E w n z.1 z.2.1 z.2.2 (.fit m rw ks es cl (.cur b)) := hr.blk n _ _ en hg5
  rw [em0] at em; injection em with em; injection em with e1 e2; injection e2 with e2 e3; subst e1; subst e2; subst e3
  have hkv := okKey_same hkk (opv_eval hg hk)
  obtain ⟨hseen, hbv, hbb⟩ := hfs
  obtain ⟨_, h5, h6⟩ := findE_real (k := k) 0 hmr hkk'
  obtain ⟨f, hf', hv, hbn⟩ := h6 i e hf
  simp only [Bool.or_false] at h3
  obtain ⟨i', q1, _, q3⟩ := findE_filter (p := fun e => !((G n).2.1.contains e.born)) 0 hf' (by
    simp only [Bool.not_eq_true', List.contains_eq_mem, decide_eq_false_iff_not]
    intro h
    exact hbv (hb ▸ hbn ▸ hdv _ h)) (by rw [← hmr.borns]; exact hbo.2)
  have hL5 : ∀ e ∈ es'.filter (fun e => !((G n).2.1.contains e.born)), okKey rw ks e.key = true := fun e he => h5 e (List.mem_filter.1 he).1
  have q4 : (es'.filter fun e => !((G n).2.1.contains e.born)).eraseIdx i' = es'.filter fun e' => !((G n).2.1.contains e'.born || e'.born == b) := by
    rw [Nat.sub_zero] at q3
    rw [q3]
    refine List.filter_congr fun e' _ => ?_
    rw [← hbn, hb, Bool.not_or]
  generalize (es'.filter fun e => !((G n).2.1.contains e.born)) = L at h3 q1 q4 hL5
  have hfk := run_findKey' (P := P) (w := w) hkt hkk L hL5
  rw [q1] at hfk
  have hck := run_checkKey' (P := P) (w := w) hkt hkk L.toArray.isEmpty
  have hne : z.1 ≠ bm0 := fun h => by rw [h, h3] at h1; cases h1
  have hs := MapKept.heap_set (o' := .map (L.toArray.eraseIdxIfInBounds i') cl) h3
  refine ⟨E, .tuple #[], { w with heap := w.heap.setIfInBounds bm0 (.map (L.toArray.eraseIdxIfInBounds i') cl) }, .inl ?_, .tup .nil, Post.gone hr wm en em0 hg5 (by simp) (fun r h => hs.2 r h) ⟨⟨hst, hkk', hbo⟩, bm0, base0, ext0, seen, es', em0, ?_, h2, ⟨hseen, hbv, hbb⟩, hmr, hdv, ?_⟩⟩
  · have hfk' := hfk
    rw [hrun, hxv, hkv]
    simp [builtin, Builtin.delete_, run_underlying ht, MapKept.run_getObj_map h3]
    simp at hck hfk'
    simp [hck, hfk', MapKept.run_setObj_map _ h3]
  · rw [hs.2 _ hne]; exact h1
  · rw [hs.1]
    have hE1 : L.toArray.eraseIdxIfInBounds i' = (L.eraseIdx i').toArray := by
      apply Array.ext'
      unfold Array.eraseIdxIfInBounds
      split
      · simp
      · rename_i h
        rw [List.eraseIdx_of_length_le (by simpa using h)]
    rw [hE1, q4]
theorem does_deleteA {x y : Operand} {t u : TypeId} (ho : o.op = .call ⟨.builtin .delete, ⟨[x, y]⟩, ⟨[t, u]⟩⟩) {kt et : TypeId} (ht : P.underlying t = some (.map kt et)) {rw : Bool} {ks : List Tk} (hkt : KeyT P kt rw ks) {n m : Nat} (hx : opv rg x = some (.map (some m)))
    {k : Value} (hk : opv rg y = some k) (hkk : okKey rw ks k = true) {es : List MapEntry} {cl b : Nat} (hg5 : g5 n hp = some (.fit m rw ks es cl (.curA b))) {i : Nat} {e : MapEntry} (hf : findE k es 0 = some (i, e)) :
    Does P o rg hp nx wm (.tuple #[]) (s5 n (some (.fit m rw ks es cl (.brk b e.born))) hp) nx (min wm (min n m)) := fun G E a w hr hg => by
  obtain ⟨cc, hrun⟩ := run_b2 (P := P) (w := w) ho a
  obtain ⟨bm0, base0, ext0, em0, hxv⟩ := (opv_eval hg hx).map_inv
  obtain ⟨z, en⟩ : BR G E w m bm0 base0 ext0 (.fmp n) := hr.blk m _ _ em0 (hr.own _ _ _ _ _ _ _ hg5)
  obtain ⟨⟨hst, hkk', hbo⟩, bm, x', y', seen, es', em, h1, h2, hfs, hmr, hdv, h3⟩ : BR G E w n z.1 z.2.1 z.2.2 (.fit m rw ks es cl (.curA b)) := hr.blk n _ _ en hg5
  rw [em0] at em; injection em with em; injection em with e1 e2; injection e2 with e2 e3; subst e1; subst e2; subst e3
  have hkv := okKey_same hkk (opv_eval hg hk)
  obtain ⟨⟨hseen, hbv, hbb⟩, hdel⟩ := hfs
  obtain ⟨_, h5, h6⟩ := findE_real (k := k) 0 hmr hkk'
  obtain ⟨f, hf', hv, hbn⟩ := h6 i e hf
  simp only [Bool.or_false] at h3
  obtain ⟨i', q1, _, q3⟩ := findE_filter (p := fun e => !((G n).2.1.contains e.born)) 0 hf' (by
    rw [hdel]; rfl) (by rw [← hmr.borns]; exact hbo.2)
  have hL5 : ∀ e ∈ es'.filter (fun e => !((G n).2.1.contains e.born)), okKey rw ks e.key = true := fun e he => h5 e (List.mem_filter.1 he).1
  have q4 : (es'.filter fun e => !((G n).2.1.contains e.born)).eraseIdx i' = es'.filter fun e' => !((G n).2.1.contains e'.born || e'.born == e.born) := by
    rw [Nat.sub_zero] at q3
    rw [q3]
    refine List.filter_congr fun e' _ => ?_
    rw [← hbn, Bool.not_or]
  generalize (es'.filter fun e => !((G n).2.1.contains e.born)) = L at h3 q1 q4 hL5
  have hfk := run_findKey' (P := P) (w := w) hkt hkk L hL5
  rw [q1] at hfk
  have hck := run_checkKey' (P := P) (w := w) hkt hkk L.toArray.isEmpty
  have hne : z.1 ≠ bm0 := fun h => by rw [h, h3] at h1; cases h1
  have hs := MapKept.heap_set (o' := .map (L.toArray.eraseIdxIfInBounds i') cl) h3
  refine ⟨E, .tuple #[], { w with heap := w.heap.setIfInBounds bm0 (.map (L.toArray.eraseIdxIfInBounds i') cl) }, .inl ?_, .tup .nil, Post.gone hr wm en em0 hg5 (by simp) (fun r h => hs.2 r h) ⟨⟨hst, hkk', hbo⟩, bm0, base0, ext0, seen, es', em0, ?_, h2, ⟨⟨hseen, hbv, hbb⟩, hdel⟩, hmr, hdv, ?_⟩⟩
  · have hfk' := hfk
    rw [hrun, hxv, hkv]
    simp [builtin, Builtin.delete_, run_underlying ht, MapKept.run_getObj_map h3]
    simp at hck hfk'
    simp [hck, hfk', MapKept.run_setObj_map _ h3]
  · rw [hs.2 _ hne]; exact h1
  · rw [hs.1]
    have hE1 : L.toArray.eraseIdxIfInBounds i' = (L.eraseIdx i').toArray := by
      apply Array.ext'
      unfold Array.eraseIdxIfInBounds
      split
      · simp
      · rename_i h
        rw [List.eraseIdx_of_length_le (by simpa using h)]
    rw [hE1, q4]
end
end
end Go.Proofs.YtdgllpcfmkjfhaaGreat
/- The quick evaluator's operations on maps, and what goes over strings and maps. Over any program. -/
namespace Go.Proofs.YtdgllpcfmkjfhaaGreat
open Go.RowKit
set_option linter.unusedVariables false
noncomputable section
variable {P : Program} {cx : Cx} {o : Oper} {rg : Reg}

def tkEq (a z : Tk) : Bool := match a, z with
  | .b, .b | .s, .s => true
  | .i j, .i k => keq j k
  | _, _ => false
theorem tkEq_eq {a z : Tk} (h : tkEq a z = true) : a = z := by
  cases a <;> cases z <;> first | rfl | cases h | (rw [keq_eq h])
def tksEq (l : List Tk) : List Tk → Bool := List.rec (fun m => List.rec true (fun _ _ _ => false) m) (fun a _ ih m => List.rec false (fun z m _ => Bool.rec false (ih m) (tkEq a z)) m) l
theorem tksEq_eq : ∀ {l m : List Tk}, tksEq l m = true → l = m
  | [], [], _ => rfl
  | [], _ :: _, h => by cases h
  | _ :: _, [], h => by cases h
  | a :: l, z :: m, h => by
    replace h : (Bool.rec false (tksEq l m) (tkEq a z) : Bool) = true := h
    cases hb : tkEq a z with
    | false => rw [hb] at h; cases h
    | true =>
      rw [hb] at h
      rw [tkEq_eq hb, tksEq_eq (l := l) (m := m) h]
def kMp (b : Bool) (ks : List Tk) (n : Nat) (hp : Hp) (k : List MapEntry → Nat → An) : An := kO (g5 n hp) fun q => match q with
  | .mp b' ks' es cl => kIf (and (Bool.rec (not b) b b') (tksEq ks ks')) (k es cl)
  | _ => none
theorem kMp_inv {b : Bool} {ks : List Tk} {n : Nat} {hp : Hp} {k : List MapEntry → Nat → An} {r} (e : kMp b ks n hp k = some r) : ∃ es cl, g5 n hp = some (.mp b ks es cl) ∧ k es cl = some r := by
  obtain ⟨q, hq, e1⟩ := kO_inv e
  cases q with
  | mp b' ks' es cl =>
    obtain ⟨c1, e2⟩ := kIf_inv (show kIf _ _ = some r from e1)
    simp only [Bool.and_eq_true] at c1
    have h1 := tksEq_eq c1.2
    have h2 : b = b' := by
      have := c1.1
      cases b <;> cases b' <;> first | rfl | cases this
    subst h1; subst h2
    exact ⟨es, cl, hq, e2⟩
  | _ => cases e1
def mN (n : Nat) : Value := .map (some n)
def cMakeM (cx : Cx) (t : TypeId) : OpC := match undX cx t with
  | some (.map kt _) => (match g5 kt cx.ks with
    | some p => .m0 fun hp nx wm k => nwH (.mp p.1 p.2 [] 0) hp nx wm mN k
    | none => .bad)
  | _ => .bad
theorem cMakeM_snd {t : TypeId} (ho : o.op = .makeMap t none) : SndC P o (cMakeM cx t) := by
  unfold cMakeM
  split
  · split
    · refine fun rg => Does.mv fun hp nx wm k r e => ?_
      obtain ⟨hn, e1⟩ := nwH_inv e
      exact ⟨_, _, _, _, does_makeMap hn ho _ _, e1⟩
    · trivial
  · trivial
def pairV (ok b : Bool) (v : Value) : Value := Bool.rec v (.tuple ⟨[v, .bool b]⟩) ok
theorem pairV_eq (ok b : Bool) (v : Value) : pairV ok b v = if ok then .tuple ⟨[v, .bool b]⟩ else v := by cases ok <;> rfl
def hLk (b : Bool) (ks : List Tk) (ok : Bool) (z : Value) (a kv : Value) (hp : Hp) (nx wm : Nat) (k : KV) : An := kMap a none fun n => kMp b ks n hp fun es cl => kIf (okKey b ks kv)
  (Option.rec (k (pairV ok false z) hp nx wm) (fun p => k (pairV ok true p.2.val) hp nx wm) (findE kv es 0))
def cLook (cx : Cx) (t : TypeId) (x ix : Operand) (ok : Bool) : OpC := match undX cx t with
  | some (.map kt et) => (match g5 kt cx.ks, g5 et cx.ti with
    | some p, some i => (match i.zero with
      | some z => Bool.rec .bad (.m2 x ix (hLk p.1 p.2 ok z)) (cstB z)
      | none => .bad)
    | _, _ => .bad)
  | _ => .bad
theorem cLook_snd (hc : CxOk P cx) {t : TypeId} {x ix : Operand} {ok : Bool} (ho : o.op = .lookup t x ix ok) : SndC P o (cLook cx t x ix ok) := by
  unfold cLook
  split
  · rename_i kt et ht
    split
    · rename_i p i hp' hi
      split
      · rename_i z hz
        cases hb : cstB z with
        | false => trivial
        | true =>
          refine fun rg a kv ha hkv => Does.mv fun hp nx wm k r e => ?_
          rcases kMap_inv e with ⟨rfl, e1⟩ | ⟨n, rfl, e1⟩
          · cases e1
          · obtain ⟨es, cl, hg, e2⟩ := kMp_inv e1
            obtain ⟨c1, e3⟩ := kIf_inv e2
            have key := does_lookup (nx := nx) (wm := wm) ho (undX_ok hc ht) (hc.ks _ _ hp').1 ha hkv c1 hg
            cases hf : findE kv es 0 with
            | none =>
              rw [hf] at e3
              have := key.2 hf i z (hc.ti _ _ hi) hz hb
              rw [← pairV_eq] at this
              exact ⟨_, _, _, _, this, e3⟩
            | some q =>
              rw [hf] at e3
              have := key.1 q.1 q.2 hf
              rw [← pairV_eq] at this
              exact ⟨_, _, _, _, this, e3⟩
      · trivial
    · trivial
  · trivial
def hUpd (b : Bool) (ks : List Tk) (vs : List Value) (hp : Hp) (nx wm : Nat) (k : KV) : An := match vs with
  | [a, kv, v] => kMap a none fun n => kMp b ks n hp fun es cl => kIf (okKey b ks kv) (Option.rec
    (fN cl fun cl => sH n (.mp b ks (app es [⟨kv, v, cl⟩]) (Nat.succ cl)) hp fun hp => kMin wm n fun wm => k (.tuple ⟨[]⟩) hp nx wm)
    (fun p => sH n (.mp b ks (setN ⟨kv, v, p.2.born⟩ es p.1) cl) hp fun hp => kMin wm n fun wm => k (.tuple ⟨[]⟩) hp nx wm) (findE kv es 0))
  | _ => none
def cUpd (cx : Cx) (t : TypeId) (x ix y : Operand) : OpC := match undX cx t with
  | some (.map kt _) => (match g5 kt cx.ks with
    | some p => .ml [x, ix, y] (hUpd p.1 p.2)
    | none => .bad)
  | _ => .bad
theorem cUpd_snd (hc : CxOk P cx) {t : TypeId} {x ix y : Operand} (ho : o.op = .mapUpdate t x ix y ∨ o.op = .insert t x ix y) : SndC P o (cUpd cx t x ix y) := by
  unfold cUpd
  split
  · rename_i kt et ht
    split
    · rename_i p hp'
      refine fun rg vs hvs => Does.mv fun hp nx wm k r e => ?_
      obtain ⟨a, kv, v, rfl, ha, hkv, hv⟩ := ovs3 hvs
      rcases kMap_inv (show kMap a none _ = some r from e) with ⟨rfl, e1⟩ | ⟨n, rfl, e1⟩
      · cases e1
      · obtain ⟨es, cl, hg, e2⟩ := kMp_inv e1
        obtain ⟨c1, e3⟩ := kIf_inv e2
        have key := does_mapUpdate (nx := nx) (wm := wm) ho (undX_ok hc ht) (hc.ks _ _ hp').1 ha hkv c1 hv hg
        cases hf : findE kv es 0 with
        | none =>
          rw [hf] at e3
          replace e3 := (fN_eq _ _).symm.trans e3
          rw [sH_eq, kMin_eq] at e3
          exact ⟨_, _, _, _, key.2 hf, e3⟩
        | some q =>
          rw [hf] at e3
          replace e3 := (sH_eq _ _ _ _).symm.trans e3
          rw [kMin_eq] at e3
          exact ⟨_, _, _, _, key.1 q.1 q.2 hf, e3⟩
    · trivial
  · trivial
def hDel (b : Bool) (ks : List Tk) (a kv : Value) (hp : Hp) (nx wm : Nat) (k : KV) : An := kMap a none fun n => kO (g5 n hp) fun q => match q with
  | .fmp it => kO (g5 it hp) fun q => match q with
    | .fit m' b' ks' es cl st => match st with
      | .cur bo => kIf (and (Nat.beq m' n) (and (Bool.rec (not b) b b') (and (tksEq ks ks') (okKey b ks kv)))) (kO (findE kv es 0) fun p => kIf (Nat.beq p.2.born bo) (sH it (.fit m' b' ks' es cl (.gone bo)) hp fun hp => kMin it n fun i => kMin wm i fun wm => k (.tuple ⟨[]⟩) hp nx wm))
      | .curA bo => kIf (and (Nat.beq m' n) (and (Bool.rec (not b) b b') (and (tksEq ks ks') (okKey b ks kv)))) (kO (findE kv es 0) fun p => sH it (.fit m' b' ks' es cl (.brk bo p.2.born)) hp fun hp => kMin it n fun i => kMin wm i fun wm => k (.tuple ⟨[]⟩) hp nx wm)
      | _ => none
    | _ => none
  | _ => kMp b ks n hp fun es cl => kIf (okKey b ks kv) (Option.rec
    (k (.tuple ⟨[]⟩) hp nx wm)
    (fun p => sH n (.mp b ks (delN es p.1) cl) hp fun hp => kMin wm n fun wm => k (.tuple ⟨[]⟩) hp nx wm) (findE kv es 0))
def cDel (cx : Cx) (t : TypeId) (x y : Operand) : OpC := match undX cx t with
  | some (.map kt _) => (match g5 kt cx.ks with
    | some p => .m2 x y (hDel p.1 p.2)
    | none => .bad)
  | _ => .bad
theorem cDel_snd (hc : CxOk P cx) {t u : TypeId} {x y : Operand} (ho : o.op = .call ⟨.builtin .delete, ⟨[x, y]⟩, ⟨[t, u]⟩⟩) : SndC P o (cDel cx t x y) := by
  unfold cDel
  split
  · rename_i kt et ht
    split
    · rename_i p hp'
      refine fun rg a kv ha hkv => Does.mv fun hp nx wm k r e => ?_
      rcases kMap_inv e with ⟨rfl, e1⟩ | ⟨n, rfl, e1⟩
      · cases e1
      · obtain ⟨q0, hq0, e1⟩ := kO_inv e1
        have old : kMp p.1 p.2 n hp (fun es cl => kIf (okKey p.1 p.2 kv) (Option.rec (k (.tuple ⟨[]⟩) hp nx wm) (fun q => sH n (.mp p.1 p.2 (delN es q.1) cl) hp fun hp => kMin wm n fun wm => k (.tuple ⟨[]⟩) hp nx wm) (findE kv es 0))) = some r →
            ∃ v hp' nx' wm', Does P o rg hp nx wm v hp' nx' wm' ∧ k v hp' nx' wm' = some r := fun e1 => by
          obtain ⟨es, cl, hg, e2⟩ := kMp_inv e1
          obtain ⟨c1, e3⟩ := kIf_inv e2
          have key := does_delete (nx := nx) (wm := wm) ho (undX_ok hc ht) (hc.ks _ _ hp').1 ha hkv c1 hg
          cases hf : findE kv es 0 with
          | none =>
            rw [hf] at e3
            exact ⟨_, _, _, _, key.2 hf, e3⟩
          | some q =>
            rw [hf] at e3
            replace e3 := (sH_eq _ _ _ _).symm.trans e3
            rw [kMin_eq] at e3
            exact ⟨_, _, _, _, key.1 q.1 q.2 hf, e3⟩
        cases q0 with
        | fmp it =>
          obtain ⟨q1, hq1, e2⟩ := kO_inv (show kO (g5 it hp) _ = some r from e1)
          cases q1 with
          | fit m' b' ks' es cl st =>
            cases st with
            | cur bo =>
              obtain ⟨c1, e3⟩ := kIf_inv (show kIf _ _ = some r from e2)
              simp only [Bool.and_eq_true] at c1
              obtain ⟨d1, d2, d3, d4⟩ := c1
              obtain ⟨⟨i, e⟩, hf, e4⟩ := kO_inv e3
              obtain ⟨d5, e5⟩ := kIf_inv e4
              have h1 := Nat.eq_of_beq_eq_true d1
              subst h1
              have h2 : b' = p.1 := by revert d2; cases b' <;> cases p.1 <;> first | exact fun _ => rfl | exact fun h => nomatch h
              subst h2
              have h3 := tksEq_eq d3
              subst h3
              rw [sH_eq, kMin_eq, kMin_eq] at e5
              exact ⟨_, _, _, _, does_deleteF (nx := nx) (wm := wm) ho (undX_ok hc ht) (hc.ks _ _ hp').1 ha hkv d4 hq1 hf (Nat.eq_of_beq_eq_true d5), e5⟩
            | curA bo =>
              obtain ⟨c1, e3⟩ := kIf_inv (show kIf _ _ = some r from e2)
              simp only [Bool.and_eq_true] at c1
              obtain ⟨d1, d2, d3, d4⟩ := c1
              obtain ⟨⟨i, e⟩, hf, e4⟩ := kO_inv e3
              have h1 := Nat.eq_of_beq_eq_true d1
              subst h1
              have h2 : b' = p.1 := by revert d2; cases b' <;> cases p.1 <;> first | exact fun _ => rfl | exact fun h => nomatch h
              subst h2
              have h3 := tksEq_eq d3
              subst h3
              replace e4 := (sH_eq _ _ _ _).symm.trans e4
              rw [kMin_eq, kMin_eq] at e4
              exact ⟨_, _, _, _, does_deleteA (nx := nx) (wm := wm) ho (undX_ok hc ht) (hc.ks _ _ hp').1 ha hkv d4 hq1 hf, e4⟩
            | _ => cases e2
          | _ => cases e2
        | _ => exact old e1
    · trivial
  · trivial

/-! ### Going over -/
def cRange (cx : Cx) (t : TypeId) (x : Operand) : OpC := match undX cx t with
  | some .string => .m1 x fun a hp nx wm k => kStr a fun s => nwH (.sit s 0) hp nx wm pN k
  | some (.map _ _) => .m1 x fun a hp nx wm k => kMap a none fun m => kO (g5 m hp) fun q => match q with
    | .mp _ _ _ cl => nwH (.it m cl []) hp nx wm pN k
    | _ => none
  | _ => .bad
theorem cRange_snd (hc : CxOk P cx) {t : TypeId} {x : Operand} (ho : o.op = .range t x) : SndC P o (cRange cx t x) := by
  unfold cRange
  split
  · rename_i ht
    refine fun rg a ha => Does.mv fun hp nx wm k r e => ?_
    obtain ⟨s, rfl, e1⟩ := kStr_inv e
    obtain ⟨hn, e2⟩ := nwH_inv e1
    exact ⟨_, _, _, _, does_rangeStr hn ho (undX_ok hc ht) ha, e2⟩
  · rename_i ht
    refine fun rg a ha => Does.mv fun hp nx wm k r e => ?_
    rcases kMap_inv e with ⟨rfl, e1⟩ | ⟨m, rfl, e1⟩
    · cases e1
    · obtain ⟨q, hq, e2⟩ := kO_inv e1
      cases q with
      | mp b ks es cl =>
        obtain ⟨hn, e3⟩ := nwH_inv (show nwH (.it m cl []) hp nx wm pN k = some r from e2)
        exact ⟨_, _, _, _, does_rangeMap hn ho (undX_ok hc ht) ha hq, e3⟩
      | _ => cases e2
  · trivial
def k0 (q : Nat) (x : An) : An := Nat.rec x (fun _ _ => none) q
theorem k0_inv {q : Nat} {x : An} {r} (e : k0 q x = some r) : q = 0 ∧ x = some r := by cases q <;> first | exact ⟨rfl, e⟩ | cases e
def hNxS (a : Value) (hp : Hp) (nx wm : Nat) (k : KV) : An := kPtr a fun n q => k0 q (kO (g5 n hp) fun b => match b with
  | .sit s pos => Bool.rec (k (.tuple ⟨[.bool false]⟩) hp nx wm) (fN (Utf8.decode s pos).1 fun c => fN (Nat.add pos (Utf8.decode s pos).2) fun pos' => sH n (.sit s pos') hp fun hp => kMin wm n fun wm => k (.tuple ⟨[.bool true, .int .i64 (.ofNat pos), .int .i32 (.ofNat c)]⟩) hp nx wm) (Nat.blt pos s.size)
  | _ => none)
theorem hNxS_snd {x : Operand} (ho : o.op = .next x true) : SndC P o (.m1 x hNxS) := by
  refine fun rg a ha => Does.mv fun hp nx wm k r e => ?_
  obtain ⟨n, q, rfl, e1⟩ := kPtr_inv e
  obtain ⟨rfl, e2⟩ := k0_inv e1
  obtain ⟨b, hb, e3⟩ := kO_inv e2
  cases b with
  | sit s pos =>
    have key := does_nextStr (P := P) (nx := nx) (wm := wm) ho ha hb
    replace e3 : (Bool.rec (k (.tuple ⟨[.bool false]⟩) hp nx wm) (fN (Utf8.decode s pos).1 fun c => fN (Nat.add pos (Utf8.decode s pos).2) fun pos' => sH n (.sit s pos') hp fun hp => kMin wm n fun wm => k (.tuple ⟨[.bool true, .int .i64 (.ofNat pos), .int .i32 (.ofNat c)]⟩) hp nx wm) (Nat.blt pos s.size) : An) = some r := e3
    cases hl : Nat.blt pos s.size with
    | true =>
      rw [hl] at e3
      replace e3 := (fN_eq _ _).symm.trans e3
      rw [fN_eq, sH_eq, kMin_eq] at e3
      exact ⟨_, _, _, _, key.1 (Nat.blt_eq.mp hl), e3⟩
    | false =>
      rw [hl] at e3
      exact ⟨_, _, _, _, key.2 (Nat.not_lt.mpr (le_of_blt hl)), e3⟩
  | _ => cases e3
def joinL (l : List MapEntry) (f : MapEntry → An) : An := List.rec (some []) (fun e _ ih => Option.rec none (fun a => Option.rec none (fun b => some (app a b)) ih) (f e)) l
theorem joinL_inv {f : MapEntry → An} : ∀ {l : List MapEntry} {r}, joinL l f = some r → ∀ e ∈ l, ∃ a, f e = some a ∧ ∀ q ∈ a, q ∈ r
  | [], r, h, e, he => by cases he
  | x :: l, r, h, e, he => by
    replace h : (Option.rec none (fun a => Option.rec none (fun b => some (app a b)) (joinL l f)) (f x) : An) = some r := h
    cases hx : f x with
    | none => rw [hx] at h; cases h
    | some a =>
      rw [hx] at h
      replace h : (Option.rec none (fun b => some (app a b)) (joinL l f) : An) = some r := h
      cases hl : joinL l f with
      | none => rw [hl] at h; cases h
      | some b =>
        rw [hl] at h
        have hr : app a b = r := Option.some.inj h
        rw [app_eq] at hr
        subst hr
        rcases List.mem_cons.1 he with rfl | he
        · exact ⟨a, hx, fun q hq => List.mem_append_left _ hq⟩
        · obtain ⟨c, h1, h2⟩ := joinL_inv hl e he
          exact ⟨c, h1, fun q hq => List.mem_append_right _ (h2 q hq)⟩
def hNxM (a : Value) (hp : Hp) (nx wm : Nat) (k : KV) : An := kPtr a fun n q => k0 q (kO (g5 n hp) fun b => match b with
  | .it m since seen => kO (g5 m hp) fun b => match b with
    | .mp _ _ es cl => kIf (Nat.beq cl since) (List.rec (k (.tuple ⟨[.bool false]⟩) hp nx wm)
        (fun _ _ _ => kMin wm n fun wm => joinL (unseen seen es) fun e => fN e.born fun bo => sH n (.it m since (bo :: seen)) hp fun hp => k (.tuple ⟨[.bool true, e.key, e.val]⟩) hp nx wm) (unseen seen es))
    | _ => none
  | .fit m rw ks es cl st => match st with
    | .idle => kMin wm n fun wm => joinL es fun e => fN e.born fun bo => sH n (.fit m rw ks es cl (.cur bo)) hp fun hp => k (.tuple ⟨[.bool true, e.key, e.val]⟩) hp nx wm
    | .fin => k (.tuple ⟨[.bool false]⟩) hp nx wm
    | .idleA => kMin wm n fun wm => joinL es fun e => fN e.born fun bo => sH n (.fit m rw ks es cl (.curA bo)) hp fun hp => k (.tuple ⟨[.bool true, e.key, e.val]⟩) hp nx wm
    | _ => none
  | _ => none)
theorem hNxM_snd {x : Operand} (ho : o.op = .next x false) : SndC P o (.n1 x hNxM) := by
  intro rg a ha hp nx wm k r e
  obtain ⟨n, q, rfl, e1⟩ := kPtr_inv e
  obtain ⟨rfl, e2⟩ := k0_inv e1
  obtain ⟨b, hb, e3⟩ := kO_inv e2
  cases b with
  | it m since seen =>
    obtain ⟨b', hb', e4⟩ := kO_inv (show kO (g5 m hp) _ = some r from e3)
    cases b' with
    | mp rw' ks es cl =>
      obtain ⟨c1, e5⟩ := kIf_inv (show kIf _ _ = some r from e4)
      have hcl := Nat.eq_of_beq_eq_true c1
      subst hcl
      have key := does_nextMap (P := P) (nx := nx) (wm := wm) ho ha hb hb'
      cases hu : unseen seen es with
      | nil =>
        rw [hu] at e5
        exact (key.1 hu).sim.one ⟨r, e5, fun _ h => h⟩
      | cons e0 l0 =>
        have hne : unseen seen es ≠ [] := by rw [hu]; nofun
        replace e5 : (List.rec (k (.tuple ⟨[.bool false]⟩) hp nx wm) (fun _ _ _ => kMin wm n fun wm => joinL (unseen seen es) fun e => fN e.born fun bo => sH n (.it m cl (bo :: seen)) hp fun hp => k (.tuple ⟨[.bool true, e.key, e.val]⟩) hp nx wm) (unseen seen es) : An) = some r := e5
        have e6 : (kMin wm n fun wm => joinL (unseen seen es) fun e => fN e.born fun bo => sH n (.it m cl (bo :: seen)) hp fun hp => k (.tuple ⟨[.bool true, e.key, e.val]⟩) hp nx wm) = some r := by
          rw [← e5]
          conv => rhs; rw [show (List.rec (k (.tuple ⟨[.bool false]⟩) hp nx wm) (fun _ _ _ => kMin wm n fun wm => joinL (unseen seen es) fun e => fN e.born fun bo => sH n (.it m cl (bo :: seen)) hp fun hp => k (.tuple ⟨[.bool true, e.key, e.val]⟩) hp nx wm) (unseen seen es) : An) = (List.rec (k (.tuple ⟨[.bool false]⟩) hp nx wm) (fun _ _ _ => kMin wm n fun wm => joinL (unseen seen es) fun e => fN e.born fun bo => sH n (.it m cl (bo :: seen)) hp fun hp => k (.tuple ⟨[.bool true, e.key, e.val]⟩) hp nx wm) (e0 :: l0) : An) from congrArg (fun t => (List.rec (k (.tuple ⟨[.bool false]⟩) hp nx wm) (fun _ _ _ => kMin wm n fun wm => joinL (unseen seen es) fun e => fN e.born fun bo => sH n (.it m cl (bo :: seen)) hp fun hp => k (.tuple ⟨[.bool true, e.key, e.val]⟩) hp nx wm) t : An)) hu]
        rw [kMin_eq] at e6
        refine ⟨_, (key.2 hne).sim, fun c hcm => ?_⟩
        obtain ⟨e', he', rfl⟩ := List.mem_map.1 hcm
        obtain ⟨a', h1, h2⟩ := joinL_inv e6 e' he'
        rw [fN_eq, sH_eq] at h1
        exact ⟨a', h1, h2⟩
    | _ => cases e4
  | fit m rw ks es cl st =>
    cases st with
    | idle =>
      replace e3 := (kMin_eq _ _ _).symm.trans e3
      refine ⟨_, (does_nextF (P := P) (nx := nx) (wm := wm) ho ha hb).sim, fun c hcm => ?_⟩
      obtain ⟨e', he', rfl⟩ := List.mem_map.1 hcm
      obtain ⟨a', h1, h2⟩ := joinL_inv e3 e' he'
      rw [fN_eq, sH_eq] at h1
      exact ⟨a', h1, h2⟩
    | fin => exact (does_nextF_fin (P := P) (nx := nx) (wm := wm) ho ha hb).sim.one ⟨r, e3, fun _ h => h⟩
    | idleA =>
      replace e3 := (kMin_eq _ _ _).symm.trans e3
      refine ⟨_, (does_nextA (P := P) (nx := nx) (wm := wm) ho ha hb).sim, fun c hcm => ?_⟩
      obtain ⟨e', he', rfl⟩ := List.mem_map.1 hcm
      obtain ⟨a', h1, h2⟩ := joinL_inv e3 e' he'
      rw [fN_eq, sH_eq] at h1
      exact ⟨a', h1, h2⟩
    | _ => cases e3
  | _ => cases e3
def hEnt (a : Value) (hp : Hp) (nx wm : Nat) (k : KV) : An := kPtr a fun n q => k0 q (kO (g5 n hp) fun b => match b with
  | .it m since (b0 :: _) => kO (g5 m hp) fun b => match b with
    | .mp _ _ es cl => kIf (Nat.beq cl since) (kO (stamp b0 es) fun e => k (.tuple ⟨[e.key, e.val]⟩) hp nx wm)
    | _ => none
  | .fit _ _ _ es _ st => (match st with
    | .cur b0 => kO (stamp b0 es) fun e => k (.tuple ⟨[e.key, e.val]⟩) hp nx wm
    | .curA b0 => kO (stamp b0 es) fun e => k (.tuple ⟨[e.key, e.val]⟩) hp nx wm
    | _ => none)
  | _ => none)
theorem hEnt_snd {x : Operand} (ho : o.op = .entry x) : SndC P o (.m1 x hEnt) := by
  refine fun rg a ha => Does.mv fun hp nx wm k r e => ?_
  obtain ⟨n, q, rfl, e1⟩ := kPtr_inv e
  obtain ⟨rfl, e2⟩ := k0_inv e1
  obtain ⟨b, hb, e3⟩ := kO_inv e2
  cases b with
  | it m since seen => cases seen with
    | nil => cases e3
    | cons b0 seen =>
      obtain ⟨b', hb', e4⟩ := kO_inv (show kO (g5 m hp) _ = some r from e3)
      cases b' with
      | mp rw' ks es cl =>
        obtain ⟨c1, e5⟩ := kIf_inv (show kIf _ _ = some r from e4)
        have hcl := Nat.eq_of_beq_eq_true c1
        subst hcl
        obtain ⟨e', he, e6⟩ := kO_inv e5
        exact ⟨_, _, _, _, does_entry ho ha hb hb' he, e6⟩
      | _ => cases e4
  | fit m rw ks es cl st =>
    cases st with
    | cur b0 =>
      obtain ⟨e, he, e4⟩ := kO_inv (show kO (stamp b0 es) _ = some r from e3)
      exact ⟨_, _, _, _, does_entryF (P := P) (nx := nx) (wm := wm) ho ha hb he, e4⟩
    | curA b0 =>
      obtain ⟨e, he, e4⟩ := kO_inv (show kO (stamp b0 es) _ = some r from e3)
      exact ⟨_, _, _, _, does_entryA (P := P) (nx := nx) (wm := wm) ho ha hb he, e4⟩
    | _ => cases e3
  | _ => cases e3
end
end Go.Proofs.YtdgllpcfmkjfhaaGreat
/- The quick evaluator's operations, all; regions. Over any program. -/
namespace Go.Proofs.YtdgllpcfmkjfhaaGreat
open Go.RowKit
set_option linter.unusedVariables false
noncomputable section
variable {P : Program} {cx : Cx} {o : Oper} {rg : Reg}

def bltC (cx : Cx) (b : Builtin) (args : List Operand) (ts : List TypeId) : OpC := match b, args, ts with
  | .append, [x, y], [t, u] => cApp cx t u x y
  | .len, [x], [t] => cLen cx t x
  | .cap, [x], [t] => cCap cx t x
  | .max, [x, y], [_, _] => cMax x y
  | .min, [x, y], [_, _] => cMin x y
  | .copy, [x, y], [t, _] => cCopy cx t x y
  | .clear, [x], [t] => cClear cx t x
  | .delete, [x, y], [t, _] => cDel cx t x y
  | _, _, _ => .bad
def callC (cx : Cx) (c : Go.Call) : OpC := match c.callee with
  | .builtin b => bltC cx b c.args.toList c.argTypes.toList
  | .value x => .cv x c.args.toList
  | _ => .bad
def opC (cx : Cx) (o : Oper) : OpC := match o.op with
  | .move x => cMove x
  | .assign x => cMove x
  | .pick c a b => cPick c a b
  | .binOp op t x y _ => cBin cx op t x y
  | .unOp op _ x => cUn op x
  | .alloc t => cAlloc cx t
  | .box _ x => .m1 x hBox
  | .build t ps => cBuild cx t ps.toList
  | .buildSlice t n ps => match n, ps with
    | 0, ⟨[]⟩ => cBuildS0 cx t
    | n, ps => cBuildS cx t n ps.toList
  | .load t a => cLoad cx t a
  | .store t a x => cStore cx t a x
  | .nilCheck x => cNil x
  | .convert s d x => cConv cx s d x
  | .makeFunc (.func f) fs cs => cMkF f fs.toList cs.toList
  | .makeMap t none => cMakeM cx t
  | .makeSlice t l c => cMakeS cx t l c
  | .slice t x lo hi mx => cSlice cx t x lo hi mx
  | .fieldAddr t x i => cFA cx t x i
  | .field t x i => cField cx t x i
  | .indexAddr t x ix => cIA cx t x ix
  | .index t x ix => cIndex cx t x ix
  | .lookup t x k ok => cLook cx t x k ok
  | .mapUpdate t x k y => cUpd cx t x k y
  | .insert t x k y => cUpd cx t x k y
  | .range t x => cRange cx t x
  | .next x true => .m1 x hNxS
  | .next x false => .n1 x hNxM
  | .entry x => .m1 x hEnt
  | .extract x i => cExt x i
  | .call c => callC cx c
  | _ => .bad
theorem callC_snd (hc : CxOk P cx) {c : Go.Call} (ho : o.op = .call c) : SndC P o (callC cx c) := by
  obtain ⟨callee, ⟨args⟩, ⟨ts⟩⟩ := c
  unfold callC
  cases callee with
  | builtin b =>
    show SndC P o (bltC cx b args ts)
    unfold bltC
    split
    · exact cApp_snd hc ho
    · exact cLen_snd hc ho
    · exact cCap_snd hc ho
    · exact cMax_snd ho
    · exact cMin_snd ho
    · exact cCopy_snd hc ho
    · exact cClear_snd hc ho
    · exact cDel_snd hc ho
    · trivial
  | value x => exact ⟨_, ho, rfl, rfl⟩
  | _ => trivial
theorem opC_snd (hc : CxOk P cx) (o : Oper) : SndC P o (opC cx o) := by
  unfold opC
  split
  case h_1 h => exact cMove_snd (.inl h)
  case h_2 h => exact cMove_snd (.inr h)
  case h_3 h => exact cPick_snd h
  case h_4 h => exact cBin_snd hc h
  case h_5 h => exact cUn_snd h
  case h_6 h => exact cAlloc_snd hc h
  case h_7 h => exact hBox_snd h
  case h_8 h => exact cBuild_snd hc h
  case h_9 h =>
    split
    · exact cBuildS0_snd hc h
    · exact cBuildS_snd hc h
  case h_10 h => exact cLoad_snd hc h
  case h_11 h => exact cStore_snd hc h
  case h_12 h => exact cNil_snd h
  case h_13 h => exact cConv_snd hc h
  case h_14 h => exact cMkF_snd h
  case h_15 h => exact cMakeM_snd h
  case h_16 h => exact cMakeS_snd hc h
  case h_17 h => exact cSlice_snd hc h
  case h_18 h => exact cFA_snd hc h
  case h_19 h => exact cField_snd hc h
  case h_20 h => exact cIA_snd hc h
  case h_21 h => exact cIndex_snd hc h
  case h_22 h => exact cLook_snd hc h
  case h_23 h => exact cUpd_snd hc (.inl h)
  case h_24 h => exact cUpd_snd hc (.inr h)
  case h_25 h => exact cRange_snd hc h
  case h_26 h => exact hNxS_snd h
  case h_27 h => exact hNxM_snd h
  case h_28 h => exact hEnt_snd h
  case h_29 h => exact cExt_snd h
  case h_30 h => exact callC_snd hc h
  case h_31 => trivial

/-! ### Regions that keep the text's order -/
def sO (d : Option Nat) : Bx (Value → Reg → (Reg → An) → An) := Option.rec (Bx.mk fun _ rg k => k rg) (fun t => (s3B An t).on fun f => Bx.mk fun v rg k => f (some v) rg k) d
theorem sO_eq (d : Option Nat) (v : Value) (rg : Reg) (k : Reg → An) : (sO d).get v rg k = k (setD d v rg) := by
  cases d with
  | none => rfl
  | some t =>
    show ((s3B An t).on fun f => Bx.mk fun v rg (k : Reg → An) => f (some v) rg k).get v rg k = _
    rw [Bx.on_eq]
    exact s3_on An t (some v) rg k
abbrev RgF := Call → Reg → Hp → Nat → Nat → KS → An
def gdB (ops : List Oper) (o : Oper) : Bx (Reg → An → An → An) := match o.guard with
  | none => Bx.mk fun _ a _ => a
  | some (j, w) => match nth ops j with
    | none => Bx.mk fun _ _ _ => none
    | some p => match p.dst with
      | none => Bx.mk fun _ _ _ => none
      | some d => (g3B d).on fun g => Bx.mk fun rg a b => kO (g rg) fun v => match v with
        | .bool t => Bool.rec (Bool.rec a b w) (Bool.rec b a w) t
        | .tuple ⟨[]⟩ => b
        | _ => none
theorem gdB_inv {ops : List Oper} {o : Oper} {rg : Reg} {a b : An} {r} (e : (gdB ops o).get rg a b = some r) : (wantedV ops rg o = some true ∧ a = some r) ∨ (wantedV ops rg o = some false ∧ b = some r) := by
  unfold gdB at e
  unfold wantedV
  split at e
  · rename_i h; rw [h]; exact .inl ⟨rfl, e⟩
  · rename_i j w h
    rw [h]
    split at e
    · cases e
    · rename_i p hp
      rw [nth_eq] at hp
      simp only [hp]
      split at e
      · cases e
      · rename_i d hd
        simp only [hd]
        rw [Bx.on_eq] at e
        obtain ⟨v, hv, e1⟩ := kO_inv (show kO (g3 d rg) _ = some r from e)
        rw [hv]
        split at e1
        · rename_i t
          cases t <;> cases w
          · exact .inl ⟨rfl, e1⟩
          · exact .inr ⟨rfl, e1⟩
          · exact .inr ⟨rfl, e1⟩
          · exact .inl ⟨rfl, e1⟩
        · exact .inr ⟨rfl, e1⟩
        · cases e1
def dOkB (N : Nat) (d : Option Nat) : Bool := match d with
  | none => true
  | some t => and (Nat.blt t N) (Nat.blt t 512)
theorem dOkB_ok {N : Nat} {d : Option Nat} (h : dOkB N d = true) : dOk N d := fun t ht => by
  subst ht
  simp only [dOkB, Bool.and_eq_true] at h
  exact ⟨Nat.blt_eq.mp h.1, Nat.blt_eq.mp h.2⟩
def opU (f : OpF) (s : Value → Reg → (Reg → An) → An) (g : RgF) : RgF := fun call rg hp nx wm k => f call rg hp nx wm fun v hp nx wm => s v rg fun rg => g call rg hp nx wm k
def opsB (cx : Cx) (N : Nat) (ops : List Oper) (l : List Oper) : Bx RgF :=
  List.rec (Bx.mk fun _ rg hp nx wm k => k rg hp nx wm) (fun o _ ih => Bool.rec (Bx.mk fun _ _ _ _ _ _ => none) (Option.rec ((runC (opC cx o)).on fun f => (sO o.dst).on fun s => ih.on fun g => Bx.mk (opU f s g)) (fun _ => (gdB ops o).on fun gd => (runC (opC cx o)).on fun f => (sO o.dst).on fun s => ih.on fun g =>
    Bx.mk fun call rg hp nx wm k => gd rg (f call rg hp nx wm fun v hp nx wm => s v rg fun rg => g call rg hp nx wm k) (s (.tuple ⟨[]⟩) rg fun rg => g call rg hp nx wm k)) o.guard) (dOkB N o.dst)) l
def SndR (P : Program) (N : Nat) (ops : Array Oper) (l : List Oper) (f : Reg → Hp → Nat → Nat → KS → An) : Prop := ∀ rg hp nx wm k r, f rg hp nx wm k = some r → SimRP P N ops l ⟨rg, hp, nx, wm⟩ fun s' => ∃ l', k s'.rg s'.hp s'.nx s'.wm = some l' ∧ ∀ q ∈ l', q ∈ r
theorem SimRP.mono {N : Nat} {ops : Array Oper} {l : List Oper} {s : St} {O O' : St → Prop} (h : SimRP P N ops l s O) (ho : ∀ s', O s' → O' s') : SimRP P N ops l s O' := fun G E pv a w ro n Q hok hro hQ => h G E pv a w ro n Q hok hro fun s' hs => hQ s' (ho s' hs)
theorem opsB_snd (hc : CxOk P cx) {N : Nat} {ops : Array Oper} {call : Call} (hcall : CallOk P call) : ∀ l, SndR P N ops l ((opsB cx N ops.toList l).get call)
  | [] => fun rg hp nx wm k r e => .nil ⟨r, e, fun _ h => h⟩
  | o :: l => fun rg hp nx wm k r e => by
    have ih := opsB_snd hc hcall (N := N) (ops := ops) l
    replace e : (Bool.rec (Bx.mk fun _ _ _ _ _ _ => none) (Option.rec ((runC (opC cx o)).on fun f => (sO o.dst).on fun s => (opsB cx N ops.toList l).on fun g => Bx.mk (opU f s g)) (fun _ => (gdB ops.toList o).on fun gd => (runC (opC cx o)).on fun f => (sO o.dst).on fun s => (opsB cx N ops.toList l).on fun g =>
      Bx.mk fun call rg hp nx wm k => gd rg (f call rg hp nx wm fun v hp nx wm => s v rg fun rg => g call rg hp nx wm k) (s (.tuple ⟨[]⟩) rg fun rg => g call rg hp nx wm k)) o.guard) (dOkB N o.dst) : Bx RgF).get call rg hp nx wm k = some r := e
    cases hd : dOkB N o.dst with
    | false => rw [hd] at e; cases e
    | true =>
      rw [hd] at e
      replace e : (gdB ops.toList o).get rg ((runC (opC cx o)).get call rg hp nx wm fun v hp nx wm => (sO o.dst).get v rg fun rg => (opsB cx N ops.toList l).get call rg hp nx wm k) ((sO o.dst).get (.tuple ⟨[]⟩) rg fun rg => (opsB cx N ops.toList l).get call rg hp nx wm k) = some r := by
        cases hg : o.guard with
        | none =>
          rw [hg] at e
          simp only [Bx.on_eq] at e
          have h0 : gdB ops.toList o = Bx.mk fun _ a _ => a := by unfold gdB; rw [hg]
          rw [h0]
          exact e
        | some p =>
          rw [hg] at e
          simp only [Bx.on_eq] at e
          exact e
      rcases gdB_inv e with ⟨hw, e1⟩ | ⟨hw, e1⟩
      · refine .run hw (dOkB_ok hd) ?_
        obtain ⟨ocs, h1, h2⟩ := runC_snd (opC_snd hc o) hcall hp nx wm _ r e1
        refine ⟨ocs, h1, fun c hcm => ?_⟩
        obtain ⟨l', h3, h4⟩ := h2 c hcm
        rw [sO_eq] at h3
        exact (ih _ _ _ _ k l' h3).mono fun s' ⟨q, h5, h6⟩ => ⟨q, h5, fun x hx => h4 x (h6 x hx)⟩
      · rw [sO_eq] at e1
        exact .skip hw (dOkB_ok hd) (ih _ _ _ _ k r e1)
end
end Go.Proofs.YtdgllpcfmkjfhaaGreat
/- The quick evaluator's regions that draw their order. Over any program. -/
namespace Go.Proofs.YtdgllpcfmkjfhaaGreat
open Go.RowKit
set_option linter.unusedVariables false
noncomputable section
variable {P : Program} {cx : Cx} {o : Oper} {rg : Reg}

/-! ### Masks -/
def tb (m j : Nat) : Bool := Nat.beq (Nat.land (Nat.shiftRight m j) 1) 1
theorem tb_eq (m j : Nat) : tb m j = m.testBit j := by
  have h : Nat.land (Nat.shiftRight m j) 1 = (m >>> j) % 2 := Nat.and_one_is_mod (m >>> j)
  rw [tb, h, Nat.testBit_eq_decide_div_mod_eq, Nat.shiftRight_eq_div_pow, Bool.eq_iff_iff]
  simp [Nat.beq_eq]
theorem tb_lor (a b j : Nat) : tb (Nat.lor a b) j = (tb a j || tb b j) := by
  rw [tb_eq, tb_eq, tb_eq]; exact Nat.testBit_or a b j
theorem tb_pow (k j : Nat) : tb (Nat.pow 2 k) j = decide (k = j) := by
  rw [tb_eq]; exact Nat.testBit_two_pow
theorem tb_zero (j : Nat) : tb 0 j = false := by rw [tb_eq]; exact Nat.zero_testBit j
def nthD (l : List Nat) (i : Nat) : Nat := Option.rec 0 (fun m => m) (nth l i)
def mskE (ms : List Nat) (l : List Edge) : Nat := List.rec 0 (fun e _ ih => Bool.rec ih (Nat.lor ih (Nat.lor (Nat.pow 2 e.on) (nthD ms e.on))) (Region.binds .any e)) l
theorem mskE_inv {ms : List Nat} {j : Nat} : ∀ {l : List Edge}, tb (mskE ms l) j = true → ∃ e ∈ l, Region.binds .any e = true ∧ (e.on = j ∨ tb (nthD ms e.on) j = true)
  | [], h => by rw [show mskE ms [] = 0 from rfl, tb_zero] at h; cases h
  | e :: l, h => by
    have hE : mskE ms (e :: l) = (Bool.rec (mskE ms l) (Nat.lor (mskE ms l) (Nat.lor (Nat.pow 2 e.on) (nthD ms e.on))) (Region.binds .any e) : Nat) := rfl
    cases hb : Region.binds .any e with
    | false =>
      rw [hE, hb] at h
      obtain ⟨e', h1, h2⟩ := mskE_inv (l := l) h
      exact ⟨e', List.mem_cons_of_mem _ h1, h2⟩
    | true =>
      rw [hE, hb] at h
      replace h : tb (Nat.lor (mskE ms l) (Nat.lor (Nat.pow 2 e.on) (nthD ms e.on))) j = true := h
      rw [tb_lor, tb_lor, tb_pow] at h
      simp only [Bool.or_eq_true, decide_eq_true_eq] at h
      rcases h with h | h | h
      · obtain ⟨e', h1, h2⟩ := mskE_inv (l := l) h
        exact ⟨e', List.mem_cons_of_mem _ h1, h2⟩
      · exact ⟨e, List.mem_cons_self .., hb, .inl h⟩
      · exact ⟨e, List.mem_cons_self .., hb, .inr h⟩
def msks (l : List Oper) : List Nat → List Nat := List.rec (fun acc => acc) (fun o _ ih acc => ih (app acc [mskE acc o.after.toList])) l

def allI {α : Type} (f : Nat → α → Bool) (l : List α) : Nat → Bool := List.rec (fun _ => true) (fun a _ ih i => Bool.rec false (ih (Nat.succ i)) (f i a)) l
theorem allI_inv {α : Type} {f : Nat → α → Bool} : ∀ {l : List α} {i : Nat}, allI f l i = true → ∀ k a, l[k]? = some a → f (i + k) a = true
  | [], i, _, k, a, h => by simp at h
  | b :: l, i, h, k, a, hk => by
    replace h : (Bool.rec false (allI f l (i + 1)) (f i b) : Bool) = true := h
    cases hb : f i b with
    | false => rw [hb] at h; cases h
    | true =>
      rw [hb] at h
      cases k with
      | zero => simp at hk; subst hk; simpa using hb
      | succ k =>
        have := allI_inv (l := l) (i := i + 1) h k a (by simpa using hk)
        rwa [show i + 1 + k = i + (k + 1) by omega] at this
def allB {α : Type} (f : α → Bool) (l : List α) : Bool := List.rec true (fun a _ ih => Bool.rec false ih (f a)) l
theorem allB_inv {α : Type} {f : α → Bool} : ∀ {l : List α}, allB f l = true → ∀ a ∈ l, f a = true
  | [], _, a, h => by cases h
  | b :: l, h, a, ha => by
    replace h : (Bool.rec false (allB f l) (f b) : Bool) = true := h
    cases hb : f b with
    | false => rw [hb] at h; cases h
    | true =>
      rw [hb] at h
      rcases List.mem_cons.1 ha with rfl | ha
      · exact hb
      · exact allB_inv (l := l) h a ha

/-! ### Which temporaries are looked at -/
def tmpsO (l : List Operand) : List Nat := List.rec [] (fun x _ ih => match x with | .tmp t => t :: ih | _ => ih) l
theorem mem_tmpsO {t : Nat} : ∀ {l : List Operand}, .tmp t ∈ l → t ∈ tmpsO l
  | x :: l, h => by
    rcases List.mem_cons.1 h with rfl | h
    · exact List.mem_cons_self ..
    · have := mem_tmpsO h
      show t ∈ (match x with | .tmp t => t :: tmpsO l | _ => tmpsO l)
      cases x <;> first | exact this | exact List.mem_cons_of_mem _ this
def gdT (ops : List Oper) (o : Oper) : List Nat := match o.guard with
  | none => []
  | some (j, _) => match nth ops j with
    | none => []
    | some p => match p.dst with
      | none => []
      | some d => [d]
def lksT (ops : List Oper) (o : Oper) (c : OpC) : List Nat := app (gdT ops o) (tmpsO (opsC c))
def restr (ts : List Nat) (rg : Reg) : Reg := List.rec (t3 Value) (fun t _ ih => s3 t (g3 t rg) ih) ts
theorem g3_restr {rg : Reg} {t : Nat} (ht : t < 512) : ∀ {ts : List Nat}, (∀ u ∈ ts, u < 512) → g3 t (restr ts rg) = if t ∈ ts then g3 t rg else none
  | [], _ => by rw [if_neg (by simp)]; exact g3_t3 t
  | u :: ts, h => by
    show g3 t (s3 u (g3 u rg) (restr ts rg)) = _
    rw [g3_s3 _ _ _ _ ht (h u (List.mem_cons_self ..)), g3_restr ht fun v hv => h v (List.mem_cons_of_mem _ hv)]
    by_cases e : t = u
    · subst e; simp
    · rw [if_neg e]; simp [e]
theorem g3_restr_some {rg : Reg} {ts : List Nat} (hts : ∀ u ∈ ts, u < 512) {t : Nat} {v : Value} (h : g3 t (restr ts rg) = some v) : t ∈ ts ∧ g3 t rg = some v := by
  by_cases ht : t < 512
  · rw [g3_restr ht hts] at h
    split at h
    · rename_i hm; exact ⟨hm, h⟩
    · cases h
  · rw [g3_far _ _ ht] at h; cases h
theorem opv_restr {rg : Reg} {ts : List Nat} (hts : ∀ u ∈ ts, u < 512) {x : Operand} (hx : ∀ t, x = .tmp t → t ∈ ts) : opv rg x = opv (restr ts rg) x := by
  cases x with
  | tmp t =>
    have := hx t rfl
    show g3 t rg = g3 t (restr ts rg)
    rw [g3_restr (hts t this) hts, if_pos this]
  | _ => rfl
theorem wanted_restr {ops : List Oper} {o : Oper} {rg : Reg} {ts : List Nat} (hts : ∀ u ∈ ts, u < 512) (hg : ∀ t ∈ gdT ops o, t ∈ ts) : wantedV ops rg o = wantedV ops (restr ts rg) o := by
  unfold wantedV
  unfold gdT at hg
  cases hgd : o.guard with
  | none => rfl
  | some p =>
    obtain ⟨j, w⟩ := p
    rw [hgd] at hg
    simp only at hg ⊢
    rw [nth_eq] at hg
    cases hj : ops[j]? with
    | none => rfl
    | some q =>
      rw [hj] at hg
      simp only at hg ⊢
      cases hd : q.dst with
      | none => rfl
      | some d =>
        rw [hd] at hg
        simp only at hg ⊢
        have hm := hg d (by simp)
        rw [g3_restr (hts d hm) hts, if_pos hm]
end
end Go.Proofs.YtdgllpcfmkjfhaaGreat
/- Values that are the same; what ways agree on. Over any program. -/
namespace Go.Proofs.YtdgllpcfmkjfhaaGreat
open Go.RowKit
set_option linter.unusedVariables false
noncomputable section
def sameA (a b : Addr) : Bool := match a, b with
  | ⟨n, o, none⟩, ⟨n', o', none⟩ => and (Nat.beq n n') (Nat.beq o o')
  | _, _ => false
theorem sameA_eq {a b : Addr} (h : sameA a b = true) : a = b := by
  obtain ⟨n, o, m⟩ := a
  obtain ⟨n', o', m'⟩ := b
  cases m <;> cases m' <;> simp only [sameA, Bool.and_eq_true, Bool.false_eq_true] at h
  rw [Nat.eq_of_beq_eq_true h.1, Nat.eq_of_beq_eq_true h.2]
def same1 (a b : Value) : Bool := match a, b with
  | .int k m, .int j n => and (keq k j) (ieq m n)
  | .bool a, .bool b => Bool.rec (not b) b a
  | .pointer none, .pointer none => true
  | .pointer (some a), .pointer (some b) => sameA a b
  | .slice none l c, .slice none l' c' => and (Nat.beq l l') (Nat.beq c c')
  | .slice (some a) l c, .slice (some b) l' c' => and (sameA a b) (and (Nat.beq l l') (Nat.beq c c'))
  | .map none, .map none => true
  | .map (some n), .map (some m) => Nat.beq n m
  | .nilFunc, .nilFunc => true
  | .nilIface, .nilIface => true
  | _, _ => false
theorem same1_eq {a b : Value} (h : same1 a b = true) : a = b := by
  unfold same1 at h
  split at h
  · simp only [Bool.and_eq_true] at h
    have h2 := h.2
    rw [ieq_eq, beq_iff_eq] at h2
    rw [keq_eq h.1, h2]
  · rename_i a b
    cases a <;> cases b <;> first | rfl | cases h
  · rfl
  · rw [sameA_eq h]
  · simp only [Bool.and_eq_true] at h
    rw [Nat.eq_of_beq_eq_true h.1, Nat.eq_of_beq_eq_true h.2]
  · simp only [Bool.and_eq_true] at h
    rw [sameA_eq h.1, Nat.eq_of_beq_eq_true h.2.1, Nat.eq_of_beq_eq_true h.2.2]
  · rfl
  · rw [Nat.eq_of_beq_eq_true h]
  · rfl
  · rfl
  · cases h
def sameL (l : List Value) : List Value → Bool := List.rec (fun m => List.rec true (fun _ _ _ => false) m) (fun a _ ih m => List.rec false (fun b m _ => Bool.rec false (ih m) (same1 a b)) m) l
theorem sameL_eq : ∀ {l m : List Value}, sameL l m = true → l = m
  | [], [], _ => rfl
  | [], _ :: _, h => by cases h
  | _ :: _, [], h => by cases h
  | a :: l, b :: m, h => by
    replace h : (Bool.rec false (sameL l m) (same1 a b) : Bool) = true := h
    cases hb : same1 a b with
    | false => rw [hb] at h; cases h
    | true =>
      rw [hb] at h
      rw [same1_eq hb, sameL_eq (l := l) (m := m) h]
def same2 (a b : Value) : Bool := match a, b with
  | .agg ⟨l⟩, .agg ⟨m⟩ => sameL l m
  | a, b => same1 a b
theorem same2_eq {a b : Value} (h : same2 a b = true) : a = b := by
  unfold same2 at h
  split at h
  · rw [sameL_eq h]
  · exact same1_eq h
def same2L (l : List Value) : List Value → Bool := List.rec (fun m => List.rec true (fun _ _ _ => false) m) (fun a _ ih m => List.rec false (fun b m _ => Bool.rec false (ih m) (same2 a b)) m) l
theorem same2L_eq : ∀ {l m : List Value}, same2L l m = true → l = m
  | [], [], _ => rfl
  | [], _ :: _, h => by cases h
  | _ :: _, [], h => by cases h
  | a :: l, b :: m, h => by
    replace h : (Bool.rec false (same2L l m) (same2 a b) : Bool) = true := h
    cases hb : same2 a b with
    | false => rw [hb] at h; cases h
    | true =>
      rw [hb] at h
      rw [same2_eq hb, same2L_eq (l := l) (m := m) h]
def sameV (a b : Value) : Bool := match a, b with
  | .agg ⟨l⟩, .agg ⟨m⟩ => sameL l m
  | .tuple ⟨l⟩, .tuple ⟨m⟩ => same2L l m
  | .func (.func f) ⟨l⟩ ⟨m⟩, .func (.func f') ⟨l'⟩ ⟨m'⟩ => and (Nat.beq f f') (and (same2L l l') (same2L m m'))
  | a, b => same1 a b
theorem sameV_eq {a b : Value} (h : sameV a b = true) : a = b := by
  unfold sameV at h
  split at h
  · rw [sameL_eq h]
  · rw [same2L_eq h]
  · simp only [Bool.and_eq_true] at h
    rw [Nat.eq_of_beq_eq_true h.1, same2L_eq h.2.1, same2L_eq h.2.2]
  · exact same1_eq h

def sameVs (l : List Value) : List Value → Bool := List.rec (fun m => List.rec true (fun _ _ _ => false) m) (fun a _ ih m => List.rec false (fun b m _ => Bool.rec false (ih m) (sameV a b)) m) l
theorem sameVs_eq : ∀ {l m : List Value}, sameVs l m = true → l = m
  | [], [], _ => rfl
  | [], _ :: _, h => by cases h
  | _ :: _, [], h => by cases h
  | a :: l, b :: m, h => by
    replace h : (Bool.rec false (sameVs l m) (sameV a b) : Bool) = true := h
    cases hb : sameV a b with
    | false => rw [hb] at h; cases h
    | true =>
      rw [hb] at h
      rw [sameV_eq hb, sameVs_eq (l := l) (m := m) h]
def agree (nx t : Nat) (l : List (Option Ex × St)) : Option Value := match l with
  | [] => none
  | o :: m => match g3 t o.2.rg with
    | none => none
    | some v => Bool.rec none (some v) (and (blw nx v) (allB (fun o' => match g3 t o'.2.rg with | none => false | some v' => sameV v v') m))
theorem agree_inv {nx t : Nat} {l : List (Option Ex × St)} {v : Value} (h : agree nx t l = some v) : blw nx v = true ∧ ∀ o ∈ l, g3 t o.2.rg = some v := by
  unfold agree at h
  split at h
  · cases h
  · rename_i o m
    split at h
    · cases h
    · rename_i u hu
      cases hb : and (blw nx u) (allB (fun o' : Option Ex × St => match g3 t o'.2.rg with | none => false | some v' => sameV u v') m) with
      | false => rw [hb] at h; cases h
      | true =>
        rw [hb] at h
        have huv : u = v := Option.some.inj h
        subst huv
        simp only [Bool.and_eq_true] at hb
        refine ⟨hb.1, fun o' ho' => ?_⟩
        rcases List.mem_cons.1 ho' with rfl | ho'
        · exact hu
        · have := allB_inv hb.2 o' ho'
          split at this
          · cases this
          · rename_i v' hv'
            rw [hv', sameV_eq this]
def keepR (nx : Nat) (l : List (Option Ex × St)) (ks : List Nat) : Reg := List.rec (t3 Value) (fun t _ ih => match agree nx t l with | none => ih | some v => s3 t (some v) ih) ks
theorem keepR_inv {nx : Nat} {l : List (Option Ex × St)} {t : Nat} {v : Value} : ∀ {ks : List Nat}, (∀ u ∈ ks, u < 512) → g3 t (keepR nx l ks) = some v → agree nx t l = some v
  | [], _, h => by rw [show keepR nx l [] = t3 Value from rfl, g3_t3] at h; cases h
  | u :: ks, hk, h => by
    have ih := keepR_inv (l := l) (nx := nx) (t := t) (v := v) (ks := ks) fun w hw => hk w (List.mem_cons_of_mem _ hw)
    have hE : keepR nx l (u :: ks) = match agree nx u l with | none => keepR nx l ks | some v => s3 u (some v) (keepR nx l ks) := rfl
    rw [hE] at h
    cases ha : agree nx u l with
    | none => rw [ha] at h; exact ih h
    | some w =>
      rw [ha] at h
      replace h : g3 t (s3 u (some w) (keepR nx l ks)) = some v := h
      by_cases ht : t < 512
      · rw [g3_s3 _ _ _ _ ht (hk u (List.mem_cons_self ..))] at h
        by_cases htu : t = u
        · subst htu; rw [if_pos rfl] at h; rw [ha]; exact h
        · rw [if_neg htu] at h; exact ih h
      · rw [g3_far _ _ ht] at h; cases h
end
end Go.Proofs.YtdgllpcfmkjfhaaGreat
/- The quick evaluator's regions that draw their order: run by the text. Over any program. -/
namespace Go.Proofs.YtdgllpcfmkjfhaaGreat
open Go.RowKit
set_option linter.unusedVariables false
noncomputable section
variable {P : Program} {cx : Cx}

def dEq (d : Option Nat) (t : Nat) : Bool := match d with | none => false | some u => Nat.beq u t
theorem dEq_iff {d : Option Nat} {t : Nat} : dEq d t = true ↔ d = some t := by
  cases d with
  | none => simp [dEq]
  | some u => simp [dEq, Nat.beq_eq]
def impB (a b : Bool) : Bool := Bool.rec true b a
theorem impB_inv {a b : Bool} (h : impB a b = true) (ha : a = true) : b = true := by subst ha; exact h
def rkE (r : List Nat) (l : List Edge) : Nat := List.rec 0 (fun e _ ih => Bool.rec ih (fN (Nat.succ (nthD r e.on)) fun m => Bool.rec m ih (Nat.ble m ih)) (Region.binds .gc e)) l
def rkP (l : List Oper) : Nat → List Nat → List Nat := List.rec (fun _ r => r) (fun o _ ih i r => ih (Nat.succ i) (setN (fN (rkE r o.after.toList) fun m => m) r i)) l
def rks (l : List Oper) : List Nat := rkP l 0 (rkP l 0 (rkP l 0 (rkP l 0 (rep [0] (len l)))))
def chkE (n : Nat) (rk : List Nat) (i : Nat) (e : Edge) : Bool := and (impB (Region.binds .text e) (Nat.blt e.on i)) (impB (Region.binds .gc e) (and (Nat.blt e.on n) (Nat.blt (nthD rk e.on) (nthD rk i))))
def chkOne (cx : Cx) (N : Nat) (L : List Oper) (ms rk : List Nat) (i : Nat) (o : Oper) : Bool :=
  and (Nat.beq (nthD ms i) (mskE ms o.after.toList))
  (and (allB (chkE (len L) rk i) o.after.toList)
  (and (allB (fun t => and (Nat.blt t 512) (allI (fun j p => impB (dEq p.dst t) (Bool.rec (and (Nat.blt i j) (tb (nthD ms j) i)) (tb (nthD ms i) j) (Nat.blt j i))) L 0)) (lksT L o (opC cx o)))
  (and (dOkB N o.dst)
  (and (match o.dst with | none => true | some t => allI (fun j p => impB (dEq p.dst t) (Nat.beq j i)) L 0)
  (isD (opC cx o))))))
def ldT (L : List Oper) (o : Oper) : Option Nat := match o.op with
  | .load _ (.tmp t) => Bool.rec none (some t) (allB (fun p => not (dEq p.dst t)) L)
  | _ => none
def isSt (fb : Bool) (o : Oper) : Bool := match o.op with | .store _ _ _ => true | .call _ => fb | _ => false
def fxT (fb : Bool) (L : List Oper) (ms : List Nat) (i : Nat) (o : Oper) : Option Nat := match ldT L o with
  | none => none
  | some t => Bool.rec (some t) none (allI (fun j p => impB (isSt fb p) (Bool.rec (tb (nthD ms j) i) (tb (nthD ms i) j) (Nat.blt j i))) L 0)
def isO {α : Type} (a : Option α) : Bool := match a with | none => false | some _ => true
theorem isO_inv {α : Type} {a : Option α} (h : isO a = true) : ∃ x, a = some x := by cases a <;> first | exact ⟨_, rfl⟩ | cases h
def isQ (fb : Bool) (cx : Cx) (L : List Oper) (ms : List Nat) (i : Nat) (o : Oper) : Bool := or (isP (opC cx o)) (isO (fxT fb L ms i o))
def frOne (fb : Bool) (cx : Cx) (L : List Oper) (ms : List Nat) (i : Nat) : Bool := allI (fun j p => or (isQ fb cx L ms j p) (or (Nat.beq j i) (Bool.rec (tb (nthD ms j) i) (tb (nthD ms i) j) (Nat.blt j i)))) L 0
def qtB (fb : Bool) (cx : Cx) (L : List Oper) (ms : List Nat) (i : Nat) (o : Oper) : Bool := and (not (isQ fb cx L ms i o)) (not (frOne fb cx L ms i))
def fxsL (fb : Bool) (L : List Oper) (ms : List Nat) (l : List Oper) : Nat → List Nat := List.rec (fun _ => []) (fun o _ ih i => match fxT fb L ms i o with | none => ih (Nat.succ i) | some t => t :: ih (Nat.succ i)) l
theorem fxsL_mem {fb : Bool} {L : List Oper} {ms : List Nat} : ∀ {l : List Oper} {i j : Nat} {o : Oper} {t : Nat}, l[j]? = some o → fxT fb L ms (i + j) o = some t → t ∈ fxsL fb L ms l i
  | [], i, j, o, t, h, _ => by simp at h
  | a :: l, i, j, o, t, h, ht => by
    show t ∈ (match fxT fb L ms i a with | none => fxsL fb L ms l (Nat.succ i) | some t => t :: fxsL fb L ms l (Nat.succ i))
    cases j with
    | zero =>
      simp at h; subst h
      rw [Nat.add_zero] at ht
      rw [ht]; exact List.mem_cons_self ..
    | succ j =>
      have := fxsL_mem (l := l) (i := i + 1) (j := j) (t := t) (by simpa using h) (by rw [show i + 1 + j = i + (j + 1) by omega]; exact ht)
      cases fxT fb L ms i a with
      | none => exact this
      | some u => exact List.mem_cons_of_mem _ this
def ckF (fxs : List Nat) (rg : Reg) (hp hp' : Hp) : Bool := allB (fun t => match g3 t rg with
  | some (.pointer (some ⟨nb, _, none⟩)) => (match g5 nb hp, g5 nb hp' with
    | some (.row cs), some (.row cs') => sameVs cs cs'
    | _, _ => false)
  | _ => false) fxs
theorem ckF_inv {fxs : List Nat} {rg : Reg} {hp hp' : Hp} (h : ckF fxs rg hp hp' = true) {t : Nat} (ht : t ∈ fxs) : ∃ nb q cs, g3 t rg = some (.pointer (some ⟨nb, q, none⟩)) ∧ g5 nb hp = some (.row cs) ∧ g5 nb hp' = some (.row cs) := by
  have := allB_inv h t ht
  split at this
  · rename_i nb q hg
    split at this
    · rename_i cs cs' h1 h2
      have := sameVs_eq this
      subst this
      exact ⟨nb, q, cs, hg, h1, h2⟩
    · cases this
  · cases this

def nmF (fxs : List Nat) (gd : Reg → An → An → An) (f : OpF) (s : Value → Reg → (Reg → An) → An) (g : RgF) : RgF := fun call rg hp nx wm k =>
  gd rg (f call rg hp nx wm fun v hp' nx wm => kIf (ckF fxs rg hp hp') (s v rg fun rg => g call rg hp' nx wm k)) (s (.tuple ⟨[]⟩) rg fun rg => g call rg hp nx wm k)
def quF (fxs : List Nat) (gd : Reg → An → An → An) (f : OpF) (s : Value → Reg → (Reg → An) → An) (g : RgF) : RgF := fun call rg hp nx wm k =>
  gd rg (f call rg hp nx nx fun v hp' nx' u => kIf (and (Nat.ble nx u) (ckF fxs rg hp hp')) (s v rg fun rg => g call rg hp' nx' wm k)) (s (.tuple ⟨[]⟩) rg fun rg => g call rg hp nx wm k)
def opsDB (fb : Bool) (cx : Cx) (L : List Oper) (ms fxs : List Nat) (l : List Oper) : Nat → Bx RgF :=
  List.rec (fun _ => Bx.mk fun _ rg hp nx wm k => k rg hp nx wm) (fun o _ ih i => (gdB L o).on fun gd => (runC (opC cx o)).on fun f => (sO o.dst).on fun s => (ih (Nat.succ i)).on fun g =>
    Bool.rec (Bx.mk (nmF fxs gd f s g)) (Bx.mk (quF fxs gd f s g)) (qtB fb cx L ms i o)) l
def drB (fb : Bool) (cx : Cx) (N : Nat) (L : List Oper) (ms rk : List Nat) : Bx RgF := Bool.rec (Bx.mk fun _ _ _ _ _ _ => none) (opsDB fb cx L ms (fxsL fb L ms L 0) L 0) (allI (chkOne cx N L ms rk) L 0)

structure Ds where
  rg : Reg
  hp : Hp
  nx : Nat
  wm : Nat
  v : Value
  b : Bool
def StepD (fb : Bool) (P : Program) (cx : Cx) (L : List Oper) (ms fxs : List Nat) (T : Nat → Ds) (n : Nat) (o : Oper) : Prop :=
  (T (n + 1)).rg = setD o.dst (T n).v (T n).rg ∧ wantedV L (restr (lksT L o (opC cx o)) (T n).rg) o = some (T n).b ∧ (∀ t ∈ fxs, ∀ nb q, g3 t (T n).rg = some (.pointer (some ⟨nb, q, none⟩)) → g5 nb (T (n + 1)).hp = g5 nb (T n).hp) ∧
  ((T n).b = false → (T n).v = .tuple ⟨[]⟩ ∧ (T (n + 1)).hp = (T n).hp ∧ (T (n + 1)).nx = (T n).nx ∧ (T (n + 1)).wm = (T n).wm) ∧
  ((T n).b = true → (isP (opC cx o) = true → ((T (n + 1)).hp = (T n).hp ∧ (T (n + 1)).nx = (T n).nx ∧ (T (n + 1)).wm = (T n).wm) ∧ ∀ h x u, SimO P o ⟨restr (lksT L o (opC cx o)) (T n).rg, h, x, u⟩ [⟨(T n).v, h, x, u⟩]) ∧
    (isP (opC cx o) = false → ∀ t, fxT fb L ms n o = some t → ((T (n + 1)).hp = (T n).hp ∧ (T (n + 1)).nx = (T n).nx ∧ (T (n + 1)).wm = (T n).wm) ∧ ∃ nb q cs, g3 t (T n).rg = some (.pointer (some ⟨nb, q, none⟩)) ∧ g5 nb (T n).hp = some (.row cs) ∧
      ∀ h x u, g5 nb h = some (.row cs) → SimO P o ⟨restr (lksT L o (opC cx o)) (T n).rg, h, x, u⟩ [⟨(T n).v, h, x, u⟩]) ∧
    (isQ fb cx L ms n o = false → frOne fb cx L ms n = true → SimO P o ⟨restr (lksT L o (opC cx o)) (T n).rg, (T n).hp, (T n).nx, (T n).wm⟩ [⟨(T n).v, (T (n + 1)).hp, (T (n + 1)).nx, (T (n + 1)).wm⟩]) ∧
    (isQ fb cx L ms n o = false → frOne fb cx L ms n = false → (T (n + 1)).wm = (T n).wm ∧ ∃ u, (T n).nx ≤ u ∧ SimO P o ⟨restr (lksT L o (opC cx o)) (T n).rg, (T n).hp, (T n).nx, (T n).nx⟩ [⟨(T n).v, (T (n + 1)).hp, (T (n + 1)).nx, u⟩]))

theorem load_any (hc : CxOk P cx) {o : Oper} {t' t : Nat} (ho : o.op = .load t' (.tmp t)) {call : Call} {rg : Reg} {hp : Hp} {nx wm : Nat} {k : KV} {r} (e : (runC (opC cx o)).get call rg hp nx wm k = some r) :
    ∃ nb q cs v, g3 t rg = some (.pointer (some ⟨nb, q, none⟩)) ∧ g5 nb hp = some (.row cs) ∧ k v hp nx wm = some r ∧ ∀ h x u, g5 nb h = some (.row cs) → Does P o rg h x u v h x u := by
  have hop : opC cx o = cLoad cx t' (.tmp t) := by unfold opC; rw [ho]
  rw [hop] at e
  unfold cLoad at e
  split at e
  · rename_i d i hd hi
    rw [fN_eq] at e
    cases hr : d.isRow with
    | true =>
      rw [hr] at e
      simp only [runC, Bx.on_eq] at e
      obtain ⟨a, h1, h2⟩ := kO_inv (show kO ((gO (.tmp t)).get rg) (fun a => hLN i.size a hp nx wm k) = some r from e)
      rw [gO_eq] at h1
      obtain ⟨n, q, rfl, e1⟩ := kPtr_inv h2
      obtain ⟨cs, hcs, e2⟩ := kRow_inv e1
      obtain ⟨hl, e3⟩ := kIf_inv e2
      exact ⟨n, q, cs, _, h1, hcs, e3, fun h x u hh => does_loadN ho (undX_ok hc hd) hr (hc.ti _ _ hi) h1 hh (hasN_le hl)⟩
    | false =>
      rw [hr] at e
      simp only [runC, Bx.on_eq] at e
      obtain ⟨a, h1, h2⟩ := kO_inv (show kO ((gO (.tmp t)).get rg) (fun a => hL1 a hp nx wm k) = some r from e)
      rw [gO_eq] at h1
      obtain ⟨n, q, rfl, e1⟩ := kPtr_inv h2
      obtain ⟨cs, hcs, e2⟩ := kRow_inv e1
      obtain ⟨v, hv, e3⟩ := kO_inv e2
      exact ⟨n, q, cs, _, h1, hcs, e3, fun h x u hh => does_load1 ho (undX_ok hc hd) hr h1 hh hv⟩
  · simp only [runC] at e
    cases e
theorem ldT_inv {L : List Oper} {o : Oper} {t : Nat} (h : ldT L o = some t) : ∃ t', o.op = .load t' (.tmp t) ∧ ∀ p ∈ L, p.dst ≠ some t := by
  unfold ldT at h
  split at h
  · rename_i t' u ho
    cases hb : allB (fun p : Oper => not (dEq p.dst u)) L with
    | false => rw [hb] at h; cases h
    | true =>
      rw [hb] at h
      have : u = t := Option.some.inj h
      subst this
      refine ⟨t', ho, fun p hp hd => ?_⟩
      have := allB_inv hb p hp
      rw [dEq_iff.2 hd] at this
      cases this
  · cases h
theorem fxT_inv {fb : Bool} {L : List Oper} {ms : List Nat} {i : Nat} {o : Oper} {t : Nat} (h : fxT fb L ms i o = some t) : ∃ t', o.op = .load t' (.tmp t) ∧ ∀ p ∈ L, p.dst ≠ some t := by
  unfold fxT at h
  split at h
  · cases h
  · rename_i u hu
    cases hb : allI (fun j p => impB (isSt fb p) (Bool.rec (tb (nthD ms j) i) (tb (nthD ms i) j) (Nat.blt j i))) L 0 with
    | true => rw [hb] at h; cases h
    | false =>
      rw [hb] at h
      have : u = t := Option.some.inj h
      subst this
      exact ldT_inv hu

theorem mem_app {α : Type} {a : α} {l m : List α} : a ∈ app l m ↔ a ∈ l ∨ a ∈ m := by rw [app_eq, List.mem_append]
theorem opsDB_seq {fb : Bool} (hc : CxOk P cx) {call : Call} (hcall : CallOk P call) {L : List Oper} {ms fxs : List Nat} : ∀ (l : List Oper) (i : Nat) (rg : Reg) (hp : Hp) (nx wm : Nat) (k : KS) (r : List (Option Ex × St)),
    (∀ o ∈ l, (∀ t ∈ lksT L o (opC cx o), t < 512) ∧ isD (opC cx o) = true) → (opsDB fb cx L ms fxs l i).get call rg hp nx wm k = some r →
    ∃ T : Nat → Ds, ((T i).rg = rg ∧ (T i).hp = hp ∧ (T i).nx = nx ∧ (T i).wm = wm) ∧ (∀ j o, l[j]? = some o → StepD fb P cx L ms fxs T (i + j) o) ∧ k (T (i + l.length)).rg (T (i + l.length)).hp (T (i + l.length)).nx (T (i + l.length)).wm = some r
  | [], i, rg, hp, nx, wm, k, r, _, e => ⟨fun _ => ⟨rg, hp, nx, wm, .bool true, true⟩, ⟨rfl, rfl, rfl, rfl⟩, fun j o h => by simp at h, e⟩
  | o :: l, i, rg, hp, nx, wm, k, r, hl, e => by
    obtain ⟨hts, hd⟩ := hl o (List.mem_cons_self ..)
    -- what the first one does
    have first : ∃ (v : Value) (b : Bool) (rg' : Reg) (hp' : Hp) (nx' wm' : Nat), (opsDB fb cx L ms fxs l (i + 1)).get call rg' hp' nx' wm' k = some r ∧ rg' = setD o.dst v rg ∧ wantedV L (restr (lksT L o (opC cx o)) rg) o = some b ∧ (∀ t ∈ fxs, ∀ nb q, g3 t rg = some (.pointer (some ⟨nb, q, none⟩)) → g5 nb hp' = g5 nb hp) ∧
        (b = false → v = .tuple ⟨[]⟩ ∧ hp' = hp ∧ nx' = nx ∧ wm' = wm) ∧
        (b = true → (isP (opC cx o) = true → (hp' = hp ∧ nx' = nx ∧ wm' = wm) ∧ ∀ h x u, SimO P o ⟨restr (lksT L o (opC cx o)) rg, h, x, u⟩ [⟨v, h, x, u⟩]) ∧
          (isP (opC cx o) = false → ∀ t, fxT fb L ms i o = some t → (hp' = hp ∧ nx' = nx ∧ wm' = wm) ∧ ∃ nb q cs, g3 t rg = some (.pointer (some ⟨nb, q, none⟩)) ∧ g5 nb hp = some (.row cs) ∧ ∀ h x u, g5 nb h = some (.row cs) → SimO P o ⟨restr (lksT L o (opC cx o)) rg, h, x, u⟩ [⟨v, h, x, u⟩]) ∧
          (isQ fb cx L ms i o = false → frOne fb cx L ms i = true → SimO P o ⟨restr (lksT L o (opC cx o)) rg, hp, nx, wm⟩ [⟨v, hp', nx', wm'⟩]) ∧
          (isQ fb cx L ms i o = false → frOne fb cx L ms i = false → wm' = wm ∧ ∃ u, nx ≤ u ∧ SimO P o ⟨restr (lksT L o (opC cx o)) rg, hp, nx, nx⟩ [⟨v, hp', nx', u⟩])) := by
      have hwr : wantedV L rg o = wantedV L (restr (lksT L o (opC cx o)) rg) o := wanted_restr hts fun t ht => mem_app.2 (.inl ht)
      have hloc : (runC (opC cx o)).get call rg = (runC (opC cx o)).get call (restr (lksT L o (opC cx o)) rg) := runC_loc (fun x hx => opv_restr hts fun t ht => mem_app.2 (.inr (mem_tmpsO (by rw [← ht]; exact hx)))) call
      have hsnd := opC_snd hc o
      have hE : (opsDB fb cx L ms fxs (o :: l) i).get = (Bool.rec (Bx.mk (nmF fxs (gdB L o).get (runC (opC cx o)).get (sO o.dst).get (opsDB fb cx L ms fxs l (i + 1)).get)) (Bx.mk (quF fxs (gdB L o).get (runC (opC cx o)).get (sO o.dst).get (opsDB fb cx L ms fxs l (i + 1)).get)) (qtB fb cx L ms i o) : Bx RgF).get := by
        show ((gdB L o).on fun gd => (runC (opC cx o)).on fun f => (sO o.dst).on fun s => (opsDB fb cx L ms fxs l (i + 1)).on fun g => (Bool.rec (Bx.mk (nmF fxs gd f s g)) (Bx.mk (quF fxs gd f s g)) (qtB fb cx L ms i o) : Bx RgF)).get = _
        simp only [Bx.on_eq]
      rw [hE] at e
      have ck : ∀ {hp' : Hp}, ckF fxs rg hp hp' = true → ∀ t ∈ fxs, ∀ nb q, g3 t rg = some (.pointer (some ⟨nb, q, none⟩)) → g5 nb hp' = g5 nb hp := fun hck t ht nb q hg => by
        obtain ⟨nb', q', cs, h1, h2, h3⟩ := ckF_inv hck ht
        rw [hg] at h1; injection h1 with h1; injection h1 with h1; injection h1 with h1; injection h1 with h1 _
        subst h1
        rw [h2, h3]
      cases hq : qtB fb cx L ms i o with
      | false =>
        rw [hq] at e
        rcases gdB_inv (show (gdB L o).get rg ((runC (opC cx o)).get call rg hp nx wm fun v hp' nx wm => kIf (ckF fxs rg hp hp') ((sO o.dst).get v rg fun rg => (opsDB fb cx L ms fxs l (i + 1)).get call rg hp' nx wm k)) ((sO o.dst).get (.tuple ⟨[]⟩) rg fun rg => (opsDB fb cx L ms fxs l (i + 1)).get call rg hp nx wm k) = some r from e) with ⟨hw, e1⟩ | ⟨hw, e1⟩
        · rw [hloc] at e1
          cases hp' : isP (opC cx o) with
          | true =>
            obtain ⟨v, h1, h2⟩ := runC_pv hsnd hp' e1
            obtain ⟨_, h2⟩ := kIf_inv h2
            rw [sO_eq] at h2
            refine ⟨v, true, _, hp, nx, wm, h2, rfl, hwr.symm.trans hw, fun _ _ _ _ _ => rfl, nofun, fun _ => ⟨fun _ => ⟨⟨rfl, rfl, rfl⟩, fun h x u => (h1 h x u).sim⟩, nofun, fun h => ?_, fun h => ?_⟩⟩ <;>
            · unfold isQ at h; rw [hp'] at h; cases h
          | false =>
            cases hfx : fxT fb L ms i o with
            | some t =>
              obtain ⟨t', ho, _⟩ := fxT_inv hfx
              obtain ⟨nb, q, cs, v, h1, h2, h3, h4⟩ := load_any hc ho e1
              obtain ⟨_, h3⟩ := kIf_inv h3
              rw [sO_eq] at h3
              refine ⟨v, true, _, hp, nx, wm, h3, rfl, hwr.symm.trans hw, fun _ _ _ _ _ => rfl, nofun, fun _ => ⟨nofun, fun _ t2 ht2 => ⟨⟨rfl, rfl, rfl⟩, nb, q, cs, ?_, h2, fun h x u hh => (h4 h x u hh).sim⟩, fun h => ?_, fun h => ?_⟩⟩
              · have : t = t2 := Option.some.inj ht2
                subst this
                exact (g3_restr_some hts h1).2
              · unfold isQ at h; rw [hp', hfx] at h; cases h
              · unfold isQ at h; rw [hp', hfx] at h; cases h
            | none =>
              have hQ : isQ fb cx L ms i o = false := by unfold isQ; rw [hp', hfx]; rfl
              have hf : frOne fb cx L ms i = true := by
                unfold qtB at hq
                rw [hQ] at hq
                simpa using hq
              obtain ⟨c, h1, h2⟩ := runC_mv hsnd hd hcall hp nx wm _ r e1
              obtain ⟨hck, h2⟩ := kIf_inv h2
              rw [sO_eq] at h2
              exact ⟨c.v, true, _, c.hp, c.nx, c.wm, h2, rfl, hwr.symm.trans hw, ck hck, nofun, fun _ => ⟨nofun, fun _ _ h => (by cases h), fun _ _ => h1, fun _ h => by rw [hf] at h; cases h⟩⟩
        · rw [sO_eq] at e1
          exact ⟨_, false, _, hp, nx, wm, e1, rfl, hwr.symm.trans hw, fun _ _ _ _ _ => rfl, fun _ => ⟨rfl, rfl, rfl, rfl⟩, nofun⟩
      | true =>
        rw [hq] at e
        unfold qtB at hq
        simp only [Bool.and_eq_true, Bool.not_eq_true'] at hq
        have hPf : isP (opC cx o) = false := by
          have := hq.1
          unfold isQ at this
          simp only [Bool.or_eq_false_iff] at this
          exact this.1
        have hFx : fxT fb L ms i o = none := by
          have := hq.1
          unfold isQ at this
          simp only [Bool.or_eq_false_iff] at this
          cases h : fxT fb L ms i o with
          | none => rfl
          | some t => rw [h] at this; cases this.2
        rcases gdB_inv (show (gdB L o).get rg ((runC (opC cx o)).get call rg hp nx nx fun v hp' nx' u => kIf (and (Nat.ble nx u) (ckF fxs rg hp hp')) ((sO o.dst).get v rg fun rg => (opsDB fb cx L ms fxs l (i + 1)).get call rg hp' nx' wm k)) ((sO o.dst).get (.tuple ⟨[]⟩) rg fun rg => (opsDB fb cx L ms fxs l (i + 1)).get call rg hp nx wm k) = some r from e) with ⟨hw, e1⟩ | ⟨hw, e1⟩
        · rw [hloc] at e1
          obtain ⟨c, h1, h2⟩ := runC_mv hsnd hd hcall hp nx nx _ r e1
          obtain ⟨h3, h4⟩ := kIf_inv h2
          simp only [Bool.and_eq_true] at h3
          rw [sO_eq] at h4
          exact ⟨c.v, true, _, c.hp, c.nx, wm, h4, rfl, hwr.symm.trans hw, ck h3.2, nofun, fun _ => ⟨fun h => (by rw [hPf] at h; cases h), fun _ t h => (by rw [hFx] at h; cases h), fun _ h => (by rw [hq.2] at h; cases h), fun _ _ => ⟨rfl, c.wm, Nat.le_of_ble_eq_true h3.1, h1⟩⟩⟩
        · rw [sO_eq] at e1
          exact ⟨_, false, _, hp, nx, wm, e1, rfl, hwr.symm.trans hw, fun _ _ _ _ _ => rfl, fun _ => ⟨rfl, rfl, rfl, rfl⟩, nofun⟩
    obtain ⟨v, b, rg', hp', nx', wm', e1, hrg, hw, hck, h0, h1⟩ := first
    obtain ⟨T, ⟨t1, t2, t3, t4⟩, hs, hk⟩ := opsDB_seq hc hcall l (i + 1) rg' hp' nx' wm' k r (fun o' ho' => hl o' (List.mem_cons_of_mem _ ho')) e1
    refine ⟨fun n => if n = i then ⟨rg, hp, nx, wm, v, b⟩ else T n, by simp, fun j o' hj => ?_, ?_⟩
    · cases j with
      | zero =>
        simp at hj; subst hj
        unfold StepD
        simp only [Nat.add_zero, if_true, if_neg (show ¬ (i + 1 = i) by omega), t1, t2, t3, t4]
        exact ⟨hrg, hw, hck, h0, h1⟩
      | succ j =>
        have := hs j o' (by simpa using hj)
        unfold StepD at this ⊢
        rw [show i + (j + 1) = i + 1 + j by omega]
        simp only [if_neg (show ¬ (i + 1 + j = i) by omega), if_neg (show ¬ (i + 1 + j + 1 = i) by omega)]
        exact this
    · rw [show i + (o :: l).length = i + 1 + l.length by simp; omega]
      simp only [if_neg (show ¬ (i + 1 + l.length = i) by omega)]
      exact hk
end
end Go.Proofs.YtdgllpcfmkjfhaaGreat
/- The quick evaluator's regions that draw their order: sound. Over any program. -/
namespace Go.Proofs.YtdgllpcfmkjfhaaGreat
open Go.RowKit
set_option linter.unusedVariables false
noncomputable section
variable {P : Program} {cx : Cx}

theorem chain_regs {fb : Bool} {L : List Oper} {ms fxs : List Nat} {T : Nat → Ds} {N : Nat} (hs : ∀ j o, L[j]? = some o → StepD fb P cx L ms fxs T j o) (hd : ∀ (j : Nat) (o : Oper), L[j]? = some o → dOk N o.dst) : ∀ i, i ≤ L.length → ∀ t v, g3 t (T i).rg = some v →
    (∃ j, j < i ∧ (L[j]?).bind (·.dst) = some t ∧ v = (T j).v) ∨ ((∀ j, j < i → (L[j]?).bind (·.dst) ≠ some t) ∧ g3 t (T 0).rg = some v)
  | 0, _, t, v, h => .inr ⟨fun j hj => by omega, h⟩
  | i + 1, hi, t, v, h => by
    obtain ⟨o, ho⟩ : ∃ o, L[i]? = some o := ⟨_, List.getElem?_eq_getElem (by omega)⟩
    rw [(hs i o ho).1] at h
    have old : (L[i]?).bind (·.dst) ≠ some t → g3 t (T i).rg = some v → ((∃ j, j < i + 1 ∧ (L[j]?).bind (·.dst) = some t ∧ v = (T j).v) ∨ ((∀ j, j < i + 1 → (L[j]?).bind (·.dst) ≠ some t) ∧ g3 t (T 0).rg = some v)) := fun hne hg => by
      rcases chain_regs hs hd i (by omega) t v hg with ⟨j, h1, h2, h3⟩ | ⟨h1, h2⟩
      · exact .inl ⟨j, by omega, h2, h3⟩
      · refine .inr ⟨fun j hj => ?_, h2⟩
        by_cases hji : j = i
        · subst hji; exact hne
        · exact h1 j (by omega)
    cases hdst : o.dst with
    | none =>
      rw [hdst] at h
      exact old (by rw [ho]; simp [hdst]) h
    | some u =>
      rw [hdst] at h
      have hu := (hd i o ho u hdst).2
      by_cases ht : t < 512
      · replace h : g3 t (s3 u (some (T i).v) (T i).rg) = some v := h
        rw [g3_s3 _ _ _ _ ht hu] at h
        by_cases htu : t = u
        · subst htu
          rw [if_pos rfl] at h
          exact .inl ⟨i, by omega, by rw [ho]; simp [hdst], (Option.some.inj h).symm⟩
        · rw [if_neg htu] at h
          exact old (by rw [ho]; simp [hdst]; exact fun e => htu e.symm) h
      · rw [g3_far _ _ ht] at h; cases h

theorem drB_snd {fb : Bool} (hc : CxOk P cx) {call : Call} (hcall : CallOk P call) {N id : Nat} {ops : Array Oper} {ms rk : List Nat} {rg : Reg} {hp : Hp} {nx wm : Nat} {k : KS} {r : List (Option Ex × St)}
    (e : (drB fb cx N ops.toList ms rk).get call rg hp nx wm k = some r) : SimP P N (.region id ops true) ⟨rg, hp, nx, wm⟩ fun e s' => e = none ∧ ∃ l', k s'.rg s'.hp s'.nx s'.wm = some l' ∧ ∀ q ∈ l', q ∈ r := by
  obtain ⟨L, hL⟩ : ∃ L, ops.toList = L := ⟨_, rfl⟩
  have hLi : ∀ i : Nat, ops[i]? = L[i]? := fun i => by rw [← hL]; simp
  have hlen : ops.size = L.length := by rw [← hL]; simp
  rw [hL] at e
  unfold drB at e
  cases hchk : allI (chkOne cx N L ms rk) L 0 with
  | false => rw [hchk] at e; cases e
  | true =>
  rw [hchk] at e
  have chk : ∀ i o, L[i]? = some o → nthD ms i = mskE ms o.after.toList ∧ (∀ e ∈ o.after.toList, (Region.binds .text e = true → e.on < i) ∧ (Region.binds .gc e = true → e.on < L.length ∧ nthD rk e.on < nthD rk i)) ∧
      (∀ t ∈ lksT L o (opC cx o), t < 512 ∧ ∀ j p, L[j]? = some p → p.dst = some t → (j < i ∧ tb (nthD ms i) j = true) ∨ (i < j ∧ tb (nthD ms j) i = true)) ∧ dOk N o.dst ∧ (∀ t, o.dst = some t → ∀ j p, L[j]? = some p → p.dst = some t → j = i) ∧ isD (opC cx o) = true := fun i o ho => by
    have h := allI_inv hchk i o ho
    rw [Nat.zero_add] at h
    unfold chkOne at h
    simp only [Bool.and_eq_true] at h
    obtain ⟨h1, h2, h3, h4, h5, h6⟩ := h
    refine ⟨Nat.eq_of_beq_eq_true h1, fun e he => by
      have h := allB_inv h2 e he
      unfold chkE at h
      simp only [Bool.and_eq_true] at h
      refine ⟨fun hb => Nat.blt_eq.mp (impB_inv h.1 hb), fun hb => ?_⟩
      have h' := impB_inv h.2 hb
      simp only [Bool.and_eq_true] at h'
      exact ⟨by rw [← len_eq]; exact Nat.blt_eq.mp h'.1, Nat.blt_eq.mp h'.2⟩, fun t ht => ?_, dOkB_ok h4, fun t ht j p hp hpt => ?_, h6⟩
    · have h := allB_inv h3 t ht
      simp only [Bool.and_eq_true] at h
      refine ⟨Nat.blt_eq.mp h.1, fun j p hp hpt => ?_⟩
      have hh := allI_inv h.2 j p hp
      rw [Nat.zero_add] at hh
      have hh := impB_inv hh (dEq_iff.2 hpt)
      cases hb : Nat.blt j i with
      | true => rw [hb] at hh; exact .inl ⟨Nat.blt_eq.mp hb, hh⟩
      | false =>
        rw [hb] at hh
        simp only [Bool.and_eq_true] at hh
        exact .inr ⟨Nat.blt_eq.mp hh.1, hh.2⟩
    · rw [ht] at h5
      have hh := allI_inv h5 j p hp
      rw [Nat.zero_add] at hh
      exact Nat.eq_of_beq_eq_true (impB_inv hh (dEq_iff.2 hpt))
  obtain ⟨T, ⟨w1, w2, w3, w4⟩, hs, hk⟩ := opsDB_seq hc hcall L 0 rg hp nx wm k r (fun o ho => by
    obtain ⟨i, hi⟩ := List.getElem?_of_mem ho
    obtain ⟨_, _, h3, _, _, h6⟩ := chk i o hi
    exact ⟨fun t ht => (h3 t ht).1, h6⟩) e
  have hs' : ∀ j o, L[j]? = some o → StepD fb P cx L ms (fxsL fb L ms L 0) T j o := fun j o h => by have := hs j o h; rwa [Nat.zero_add] at this
  rw [Nat.zero_add] at hk
  have hcr := chain_regs hs' fun j o h => (chk j o h).2.2.2.1
  obtain ⟨kd, hkd⟩ : ∃ kd : Nat → Kd, kd = fun i => match L[i]? with
    | none => .pure
    | some o => Bool.rec .pure (Bool.rec (Bool.rec .quiet .free (frOne fb cx L ms i)) .pure (isQ fb cx L ms i o)) (T i).b := ⟨_, rfl⟩
  have hkd1 : ∀ i o, L[i]? = some o → kd i = Bool.rec .pure (Bool.rec (Bool.rec .quiet .free (frOne fb cx L ms i)) .pure (isQ fb cx L ms i o)) (T i).b := fun i o h => by rw [hkd]; simp only [h]
  have kfree : ∀ i o, L[i]? = some o → kd i = .free → (T i).b = true ∧ isQ fb cx L ms i o = false ∧ frOne fb cx L ms i = true := fun i o h hf => by
    rw [hkd1 i o h] at hf
    cases hb : (T i).b <;> rw [hb] at hf <;> cases hp' : isQ fb cx L ms i o <;> (try rw [hp'] at hf) <;> cases hfr : frOne fb cx L ms i <;> (try rw [hfr] at hf) <;> first | exact ⟨rfl, rfl, rfl⟩ | cases hf
  have kquiet : ∀ i o, L[i]? = some o → kd i = .quiet → (T i).b = true ∧ isQ fb cx L ms i o = false ∧ frOne fb cx L ms i = false := fun i o h hf => by
    rw [hkd1 i o h] at hf
    cases hb : (T i).b <;> rw [hb] at hf <;> cases hp' : isQ fb cx L ms i o <;> (try rw [hp'] at hf) <;> cases hfr : frOne fb cx L ms i <;> (try rw [hfr] at hf) <;> first | exact ⟨rfl, rfl, rfl⟩ | cases hf
  have kpure : ∀ i o, L[i]? = some o → kd i = .pure → (T i).b = true → isQ fb cx L ms i o = true := fun i o h hf hb => by
    rw [hkd1 i o h, hb] at hf
    cases hp' : isQ fb cx L ms i o <;> (try rw [hp'] at hf) <;> cases hfr : frOne fb cx L ms i <;> (try rw [hfr] at hf) <;> first | rfl | cases hf
  have knp : ∀ i o, L[i]? = some o → kd i ≠ .pure → isQ fb cx L ms i o = false := fun i o h hn => by
    cases hp' : isQ fb cx L ms i o with
    | false => rfl
    | true =>
      refine absurd ?_ hn
      rw [hkd1 i o h, hp']
      cases (T i).b <;> rfl
  have get : ∀ i, i < ops.size → ∃ o, L[i]? = some o := fun i hi => ⟨_, List.getElem?_eq_getElem (by rw [← hlen]; exact hi)⟩
  obtain ⟨rgS, hrgS⟩ : ∃ rgS : Nat → Reg, rgS = fun i => match L[i]? with | none => t3 Value | some o => restr (lksT L o (opC cx o)) (T i).rg := ⟨_, rfl⟩
  have hrgS1 : ∀ i o, L[i]? = some o → rgS i = restr (lksT L o (opC cx o)) (T i).rg := fun i o h => by rw [hrgS]; simp only [h]
  have hdstL : ∀ j, dstAt ops j = (L[j]?).bind (·.dst) := fun j => by rw [dstAt, hLi]
  obtain ⟨fx, hfx⟩ : ∃ fx : Nat → Option (Nat × List Value), fx = fun i => match L[i]? with
    | none => none
    | some o => match fxT fb L ms i o with
      | none => none
      | some t => match g3 t (T i).rg with
        | some (.pointer (some ⟨nb, _, none⟩)) => (match g5 nb (T i).hp with
          | some (.row cs) => some (nb, cs)
          | _ => none)
        | _ => none := ⟨_, rfl⟩
  have hregT : ∀ t, (∀ p ∈ L, p.dst ≠ some t) → ∀ p, p ≤ L.length → g3 t (T p).rg = g3 t (T 0).rg := fun t ht p => by
    induction p with
    | zero => exact fun _ => rfl
    | succ p ih =>
      intro hp
      obtain ⟨o, ho⟩ : ∃ o, L[p]? = some o := ⟨_, List.getElem?_eq_getElem (by omega)⟩
      rw [(hs' p o ho).1, ← ih (by omega)]
      have hne := ht o (List.mem_of_getElem? ho)
      cases hd : o.dst with
      | none => rfl
      | some u =>
        rw [hd] at hne
        show g3 t (s3 u _ _) = _
        by_cases h5 : t < 512
        · rw [g3_s3 _ _ _ _ h5 ((chk p o ho).2.2.2.1 u hd).2, if_neg (fun e => hne (by rw [e]))]
        · rw [g3_far _ _ h5, g3_far _ _ h5]
  have hconst : ∀ t ∈ fxsL fb L ms L 0, (∀ p ∈ L, p.dst ≠ some t) → ∀ nb q, g3 t (T 0).rg = some (.pointer (some ⟨nb, q, none⟩)) → ∀ p, p ≤ L.length → g5 nb (T p).hp = g5 nb (T 0).hp := fun t ht hne nb q hg p => by
    induction p with
    | zero => exact fun _ => rfl
    | succ p ih =>
      intro hp
      obtain ⟨o, ho⟩ : ∃ o, L[p]? = some o := ⟨_, List.getElem?_eq_getElem (by omega)⟩
      rw [(hs' p o ho).2.2.1 t ht nb q (by rw [hregT t hne p (by omega)]; exact hg)]
      exact ih (by omega)
  have d : Drawn P N ops rg (fun i => (T i).hp) (fun i => (T i).nx) (fun i => (T i).wm) (fun i => (T i).v) rgS (fun i => (T i).b) kd (fun i j => tb (nthD ms i) j) fx := by
    refine ⟨fun i o ho => ?_, fun i o ho hw => ?_, fun i o ho hp' => ?_, fun i nb cs he => ?_, fun i o ho hq => ?_, fun i o ho hf => ?_, fun i j hi hj hf hn hji => ?_, fun i j hi hj hf hn hij => ?_, fun i o ho j hb => ?_, fun md => ?_, fun i o ho t v hg => ?_, fun i => ?_, fun i j t hi hj => ?_⟩
    · rw [hLi] at ho; rw [hrgS1 i o ho, hL]; exact (hs' i o ho).2.1
    · rw [hLi] at ho
      refine ⟨((hs' i o ho).2.2.2.1 hw).1, ?_⟩
      rw [hkd1 i o ho, hw]
    · rw [hLi] at ho
      cases hb : (T i).b with
      | false =>
        obtain ⟨_, q1, q2, q3⟩ := (hs' i o ho).2.2.2.1 hb
        exact ⟨q2, q1, q3, fun h => absurd h (by simp)⟩
      | true =>
        have hQ := kpure i o ho hp' hb
        cases hP : isP (opC cx o) with
        | true =>
          obtain ⟨⟨q1, q2, q3⟩, q4⟩ := ((hs' i o ho).2.2.2.2 hb).1 hP
          exact ⟨q2, q1, q3, fun _ h n u _ => by rw [hrgS1 i o ho]; exact q4 h n u⟩
        | false =>
          unfold isQ at hQ
          rw [hP] at hQ
          obtain ⟨t, ht⟩ := isO_inv hQ
          obtain ⟨⟨q1, q2, q3⟩, nb, q, cs, q4, q5, q6⟩ := ((hs' i o ho).2.2.2.2 hb).2.1 hP t ht
          have hfi : fx i = some (nb, cs) := by rw [hfx]; simp only [ho, ht, q4, q5]
          exact ⟨q2, q1, q3, fun _ h n u hh => by rw [hrgS1 i o ho]; exact q6 h n u (hh nb cs hfi)⟩
    · rw [hfx] at he
      simp only at he
      split at he
      · cases he
      · rename_i o ho
        split at he
        · cases he
        · rename_i t ht
          split at he
          · rename_i nb' q hg
            split at he
            · rename_i cs' hcs
              injection he with he; injection he with h1 h2
              subst h1; subst h2
              obtain ⟨_, _, hne⟩ := fxT_inv ht
              have hil : i < L.length := (List.getElem?_eq_some_iff.1 ho).1
              have hm : t ∈ fxsL fb L ms L 0 := fxsL_mem ho (by rw [Nat.zero_add]; exact ht)
              have hg0 : g3 t (T 0).rg = some (.pointer (some ⟨nb', q, none⟩)) := by rw [← hregT t hne i (by omega)]; exact hg
              intro p hp'
              rw [hconst t hm hne nb' q hg0 p (by rw [← hlen]; exact hp'), ← hconst t hm hne nb' q hg0 i (by omega)]
              exact hcs
            · cases he
          · cases he
    · rw [hLi] at ho
      obtain ⟨q1, q2, q3⟩ := kquiet i o ho hq
      rw [hrgS1 i o ho]
      exact ((hs' i o ho).2.2.2.2 q1).2.2.2 q2 q3
    · rw [hLi] at ho
      obtain ⟨q1, q2, q3⟩ := kfree i o ho hf
      rw [hrgS1 i o ho]
      exact ((hs' i o ho).2.2.2.2 q1).2.2.1 q2 q3
    · obtain ⟨o, ho⟩ := get i hi
      obtain ⟨p, hp'⟩ := get j hj
      have h := allI_inv (kfree i o ho hf).2.2 j p hp'
      rw [Nat.zero_add, knp j p hp' hn, Nat.blt_eq.mpr hji] at h
      simp only [Bool.false_or, Bool.or_eq_true] at h
      rcases h with h | h
      · have := Nat.eq_of_beq_eq_true h; omega
      · exact h
    · obtain ⟨o, ho⟩ := get i hi
      obtain ⟨p, hp'⟩ := get j hj
      have h := allI_inv (kfree i o ho hf).2.2 j p hp'
      have hnb : Nat.blt j i = false := by
        cases hb : Nat.blt j i with
        | false => rfl
        | true => have := Nat.blt_eq.mp hb; omega
      rw [Nat.zero_add, knp j p hp' hn, hnb] at h
      simp only [Bool.false_or, Bool.or_eq_true] at h
      rcases h with h | h
      · have := Nat.eq_of_beq_eq_true h; omega
      · exact h
    · rw [hLi] at ho
      skip
      rw [(chk i o ho).1] at hb
      obtain ⟨e', h1, h2, h3⟩ := mskE_inv hb
      exact ⟨e', by simpa using h1, h2, h3⟩
    · have hlt : ∀ i o, ops[i]? = some o → i < ops.size := fun i o h => (Array.getElem?_eq_some_iff.1 h).1
      cases md with
      | text => exact ⟨fun i => i, fun i o ho e he hb => by
          have h1 := hlt i o ho
          rw [hLi] at ho
          have := ((chk i o ho).2.1 e (by simpa using he)).1 hb
          exact ⟨by omega, this⟩⟩
      | any => exact ⟨fun i => i, fun i o ho e he hb => by
          have h1 := hlt i o ho
          rw [hLi] at ho
          have := ((chk i o ho).2.1 e (by simpa using he)).1 (binds_any hb)
          exact ⟨by omega, this⟩⟩
      | gc => exact ⟨nthD rk, fun i o ho e he hb => by
          rw [hLi] at ho
          rw [hlen]
          exact ((chk i o ho).2.1 e (by simpa using he)).2 hb⟩
    · rw [hLi] at ho
      rw [hrgS1 i o ho] at hg
      obtain ⟨_, _, h3, _⟩ := chk i o ho
      obtain ⟨hm', hg'⟩ := g3_restr_some (fun u hu => (h3 u hu).1) hg
      have hil : i < L.length := (List.getElem?_eq_some_iff.1 ho).1
      rcases hcr i (by omega) t v hg' with ⟨j, h1, h2, h4⟩ | ⟨h1, h2⟩
      · refine .inl ⟨j, h1, ?_, by rw [hdstL]; exact h2, h4⟩
        obtain ⟨p, hp'⟩ : ∃ p, L[j]? = some p := ⟨_, List.getElem?_eq_getElem (by omega)⟩
        rw [hp'] at h2
        rcases (h3 t hm').2 j p hp' h2 with hh | hh
        · exact hh.2
        · omega
      · refine .inr ⟨fun j hj hjt => ?_, by rw [← w1]; exact h2⟩
        rw [hdstL] at hjt
        obtain ⟨p, hp'⟩ := get j hj
        have hjt' := hjt
        rw [hp'] at hjt'
        rcases (h3 t hm').2 j p hp' hjt' with hh | hh
        · exact absurd hjt (h1 j hh.1)
        · exact hh
    · rw [hdstL]
      cases hi : L[i]? with
      | none => exact fun t h => by cases h
      | some o => exact (chk i o hi).2.2.2.1
    · rw [hdstL] at hi hj
      cases hLi' : L[i]? with
      | none => rw [hLi'] at hi; cases hi
      | some o =>
        cases hLj : L[j]? with
        | none => rw [hLj] at hj; cases hj
        | some p =>
          rw [hLi'] at hi
          rw [hLj] at hj
          exact ((chk i o hLi').2.2.2.2.1 t hi j p hLj hj).symm
  refine (SimC.drawn (s := ⟨rg, hp, nx, wm⟩) d w2 w3 w4 (rgF := (T L.length).rg) fun t v hv => ?_).toP fun e' s' hmem => ?_
  · rcases hcr L.length (Nat.le_refl _) t v hv with ⟨j, h1, h2, h4⟩ | ⟨h1, h2⟩
    · exact .inl ⟨j, by rw [hlen]; exact h1, by rw [hdstL]; exact h2, h4⟩
    · exact .inr ⟨fun j hj => by rw [hdstL]; exact h1 j (by rw [← hlen]; exact hj), by rw [← w1]; exact h2⟩
  · simp only [List.mem_singleton, Prod.mk.injEq] at hmem
    obtain ⟨rfl, rfl⟩ := hmem
    rw [hlen]
    exact ⟨rfl, r, hk, fun _ h => h⟩
end
end Go.Proofs.YtdgllpcfmkjfhaaGreat
