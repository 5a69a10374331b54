/- Texts of the proof, laid together by program. -/
import Derived.Test.YtolghmhodaphfaaMr
import Derived.Test.YtolghmhodaphfaaMa
import Derived.Laws.AppendOwnNone
/- Plain law: two perfect sets, one behind the other. No program in sight. -/
namespace Go.Proofs.Ytolghmhodaphfaa
theorem isPf_app (p : Int) (ls : List Kd) : ∀ (ks : List Kd) (nx : Int), isPf p nx (ks ++ ls) = (isPf p nx ks && isPf p (nx * facP p ks) ls)
  | [], nx => by
    show isPf p nx ls = (true && isPf p (nx * 1) ls)
    rw [Int.mul_one, Bool.true_and]
  | k0 :: ks, nx => by
    show (k0.wt == nx && isPf p (nx * fac p k0) (ks ++ ls)) = (k0.wt == nx && isPf p (nx * fac p k0) ks && isPf p (nx * (fac p k0 * facP p ks)) ls)
    rw [isPf_app p ls ks, Bool.and_assoc, Int.mul_assoc]
theorem isPf_sc (p : Int) {t : Int} : ∀ (ks : List Kd) (nx : Int), isPf p nx ks = true → isPf p (t * nx) (scK t ks) = true
  | [], _, _ => rfl
  | k :: ks, nx, h => by
    have h1 : (k.wt == nx && isPf p (nx * fac p k) ks) = true := h
    rw [Bool.and_eq_true, beq_iff_eq] at h1
    show ((t * k.wt == t * nx) && isPf p (t * nx * fac p k) (scK t ks)) = true
    rw [h1.1, beq_self_eq_true, Bool.true_and, Int.mul_assoc]
    exact isPf_sc p ks _ h1.2
theorem facts_sc (p t : Int) (ks : List Kd) : factsL p (scK t ks) = factsL p ks := by
  unfold factsL scK
  rw [List.map_map]; rfl
theorem facts_app (p : Int) (ks ls : List Kd) : factsL p (ks ++ ls) = factsL p ks ++ factsL p ls := by unfold factsL; rw [List.map_append]
theorem counted_perf {p a : Int} (hp : p = 1 ∨ p = 2) (h1 : 1 ≤ a) (h2 : a ≤ 60) : (∀ s ∈ allSets p a, checkSet s = 0 ∧ sumOf s = a ∧ isPf p 1 s = true) ∧ 1 ≤ (allSets p a).length ∧ (allSets p a).length ≤ 200 := by
  have hf := counted_facts hp h1 h2
  refine ⟨fun s hs => ?_, ?_, ?_⟩
  · obtain ⟨c1, c2, c3, -⟩ := hf.2.1 s hs
    rcases perf_cases hp c1 with ⟨q1, -⟩ | ⟨-, q2, -⟩
    · exact ⟨c1, c2, q1⟩
    · rw [c3] at q2; cases q2
  · have h3 := hf.2.2.2.1
    have h4 := hf.2.2.2.2
    have h5 : ∀ m : Fin 122, m.val < 1 ∨ 1 ≤ oT m.val := by decide +kernel
    have h6 := (h5 ⟨(p * a + 1).toNat, by rcases hp with rfl | rfl <;> omega⟩).resolve_left (by simp; rcases hp with rfl | rfl <;> omega)
    simp only at h6
    omega
  · have h3 := hf.2.2.2.1
    have h4 := hf.2.2.2.2
    have := oT_bd (p * a + 1).toNat
    omega
theorem joined_facts {p a b : Int} (hp : p = 1 ∨ p = 2) (ha1 : 1 ≤ a) (ha2 : a ≤ 60) (hb1 : 1 ≤ b) (hb2 : b ≤ 60) {s t : List Kd} (hs : s ∈ allSets p a) (ht : t ∈ allSets p b) (hx : checkSet (s ++ scK (p * a + 1) t) = 0) :
    perfE p (s ++ scK (p * a + 1) t) = 0 ∧ perfV p (s ++ scK (p * a + 1) t) = sumOf (s ++ scK (p * a + 1) t) ∧ factsL p (s ++ scK (p * a + 1) t) = factsL p s ++ factsL p t := by
  obtain ⟨c1, c2, c3⟩ := (counted_perf hp ha1 ha2).1 s hs
  obtain ⟨d1, d2, d3⟩ := (counted_perf hp hb1 hb2).1 t ht
  have hf := (perf_law hp c1).2 c3
  rw [c2] at hf
  have hpf : isPf p 1 (s ++ scK (p * a + 1) t) = true := by
    rw [isPf_app, c3, Bool.true_and, Int.one_mul, hf]
    have := isPf_sc p (t := p * a + 1) t 1 d3
    rwa [Int.mul_one] at this
  rcases perf_cases hp hx with ⟨-, q2, q3, -⟩ | ⟨q1, -⟩
  · exact ⟨q2, q3, by rw [facts_app, facts_sc]⟩
  · rw [hpf] at q1; cases q1
end Go.Proofs.Ytolghmhodaphfaa
/- append of what a slice value reads as, nil or not, at a guarded operation, too. -/
namespace Go.Proofs.Ytolghmhodaphfaa
open Go.RowKit
theorem wpList_wanted {P : Program} {w : World} {ops : Array Oper} {rest : List Oper} {o : Oper} {a : Act} {Q : Exit → Act → World → Prop} (hw : Region.wanted o (yielded ops a.tmps) = true)
    (h : ∀ K : Act → World → Prop, (∀ a w, wpList P ops Q rest a w → K a w) → o.wp P a w K Q) : wpList P ops Q (o :: rest) a w :=
  wpList_step fun K hK => by simp only [hw, if_true]; exact h K hK
theorem wpList_append_srcG {P : Program} {w : World} {ops : Array Oper} {rest : List Oper} {o : Oper} {a : Act} {Q : Exit → Act → World → Prop} (hw : Region.wanted o (yielded ops a.tmps) = true) (s x : Operand) (t : TypeId)
    (ho : o.op = .call { callee := .builtin .append, args := #[s, x], argTypes := #[t, t] })
    (base : Nat) (e : TypeId) (i : TypeInfo) (z : Value) (size bytes : Nat) (ht : P.underlying t = some (.slice e)) (hi : P.info? e = some i) (hz : i.zero = some z)
    (hsize : i.size = size) (hby : i.bytes = bytes) (hzs : z.cells.size = size) (hsz : 0 < size)
    (v : Value) (n : Nat) (xs : List Value) (hs : a.eval s = v) (hown : w.ownsRow base e size v n xs)
    (A : Option Addr) (m c : Nat) (news : List Value) (hx : a.eval x = .slice A m c) (B : Nat) (hS : Sl w B size A m news) (hA : A = none → m = 0 ∧ c = 0) (h1 : ∀ u ∈ news, u.oneCell' = true)
    (h63 : n + m ≤ maxLen) (hbytes : (n + m) * bytes ≤ 140737488355328) (hbase : base ≤ w.heap.size)
    (h : ∀ v' w', w'.ownsRow base e size v' (n + m) (xs ++ news) → w.grownBy w' v.ownBlock → (v' = .slice none 0 0 ↔ v = .slice none 0 0 ∧ m = 0) → (v'.ownBlock = v.ownBlock ∨ v'.ownBlock = some w.heap.size) → wpList P ops Q rest (a.put o.dst v') w') :
    wpList P ops Q (o :: rest) a w := by
  refine wpList_wanted hw fun K hK => ?_
  cases A with
  | none =>
    obtain ⟨rfl, rfl⟩ := hA rfl
    have hn : news = [] := List.eq_nil_of_length_eq_zero (by rw [hS.1]; omega)
    subst hn
    have hrun := run_append_owned_none (P := P) (w := w) base t o.type e i size ht hi v n xs hown
    unfold Oper.wp
    simp [execOp, ho, resolve, invoke, builtin, hs, hx, hrun, Result.andThen]
    exact hK _ _ (h v w (by rw [List.append_nil, Nat.add_zero]; exact hown) ⟨rfl, rfl, rfl, Nat.le_refl _, fun _ _ _ => rfl⟩ (by simp) (.inl rfl))
  | some ad =>
    have hnews : ∀ j u, news[j]? = some u → w.cell? (ad.add j) = some u := fun j u hj => by
      have hm : 0 < m := by
        rcases Nat.eq_zero_or_pos m with h0 | h0
        · have := hS.1; rw [h0, Nat.zero_mul] at this
          rw [List.eq_nil_of_length_eq_zero this] at hj; simp at hj
        · exact h0
      obtain ⟨b, off, hA', -, hc⟩ := hS.2 hm
      cases hA'
      rw [add_at]
      exact hc j u hj
    obtain ⟨v', w', hr, h2, h3, h4, h5⟩ := run_append_own_at (P := P) w base t o.type e i z size bytes ht hi hz hsize hby hzs hsz v n xs hown ad m c news hS.1 hnews h1 h63 hbytes hbase
    unfold Oper.wp execOp
    simp only [ho, resolve, invoke, builtin, Sem.run_bind, Sem.run_pure, Result.andThen_ok, List.map_toArray, List.map_cons, List.map_nil, hs, hx, hr]
    exact hK _ _ (h v' w' h2 h3 h4 h5)
end Go.Proofs.Ytolghmhodaphfaa
