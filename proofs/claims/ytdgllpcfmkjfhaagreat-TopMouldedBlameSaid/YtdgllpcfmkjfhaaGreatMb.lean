/- Texts of the proof, laid together by program. -/
import Derived.Test.YtdgllpcfmkjfhaaGreatMa
import Derived.ChangeKeysEq
import Derived.Laws.StructEq
import Derived.WideKeyRuns
import Derived.MapKept
import Derived.Maps.RangeRun
import Derived.TacticsIn
import Derived.Scope
import Derived.RangeFuncIn
import Derived.Deep.Draws
import Derived.RangeFuncLeaves
import Derived.RangeFuncRecord
import Derived.OrdersIn
set_option linter.unusedSimpArgs false
set_option linter.unusedVariables false
/- Equality of structs and arrays of numbers, Booleans and strings, cell by cell. Over any program. -/
namespace Go.Proofs.YtdgllpcfmkjfhaaGreat
open Go.RowKit
noncomputable section

def ceq (a b : Value) : Bool := match a, b with
  | .int _ a, .int _ b => ieq a b
  | .bool a, .bool b => Bool.rec (Bool.rec true false b) b a
  | .string a, .string b => blist a.data.toList b.data.toList
  | _, _ => false
def cellsEq (l : List Value) : List Value → Bool :=
  List.rec (fun m => List.rec true (fun _ _ _ => false) m) (fun a _ ih m => List.rec false (fun b m _ => Bool.rec false (ih m) (ceq a b)) m) l

theorem cellsOk_cons (k : Tk) (ks : List Tk) (v : Value) (l : List Value) : cellsOk (k :: ks) (v :: l) = (tkOk k v && cellsOk ks l) := by
  show Bool.rec (motive := fun _ => Bool) false (cellsOk ks l) (tkOk k v) = _
  cases tkOk k v <;> rfl
theorem cellsEq_cons (a b : Value) (l m : List Value) : cellsEq (a :: l) (b :: m) = (ceq a b && cellsEq l m) := by
  show Bool.rec (motive := fun _ => Bool) false (cellsEq l m) (ceq a b) = _
  cases ceq a b <;> rfl
theorem cellsOk_length {ks : List Tk} : ∀ {l : List Value}, cellsOk ks l = true → l.length = ks.length := by
  induction ks with
  | nil => intro l h; cases l with
    | nil => rfl
    | cons v l => cases h
  | cons k ks ih => intro l h; cases l with
    | nil => cases h
    | cons v l => rw [cellsOk_cons, Bool.and_eq_true] at h; simp [ih h.2]
theorem cellsOk_append {k1 k2 : List Tk} : ∀ {l : List Value}, cellsOk (k1 ++ k2) l = true → cellsOk k1 (l.take k1.length) = true ∧ cellsOk k2 (l.drop k1.length) = true := by
  induction k1 with
  | nil => intro l h; exact ⟨rfl, h⟩
  | cons k k1 ih => intro l h; cases l with
    | nil => cases h
    | cons v l =>
      rw [List.cons_append, cellsOk_cons, Bool.and_eq_true] at h
      have := ih h.2
      refine ⟨?_, this.2⟩
      rw [List.length_cons, List.take_succ_cons, cellsOk_cons, Bool.and_eq_true]
      exact ⟨h.1, this.1⟩
theorem cellsEq_append : ∀ (n : Nat) (l m : List Value), l.length = m.length → cellsEq l m = (cellsEq (l.take n) (m.take n) && cellsEq (l.drop n) (m.drop n))
  | 0, l, m, _ => rfl
  | n + 1, [], [], _ => rfl
  | n + 1, a :: l, b :: m, h => by
    rw [cellsEq_cons, List.take_succ_cons, List.take_succ_cons, cellsEq_cons, List.drop_succ_cons, List.drop_succ_cons, cellsEq_append n l m (by simpa using h), Bool.and_assoc]
  | n + 1, [], _ :: _, h => by simp at h
  | n + 1, _ :: _, [], h => by simp at h

def flatF (P : Program) (g : TypeId → Option (List Tk)) : List Field → Nat → Option (List Tk)
  | [], _ => some []
  | f :: fs, off => match g f.type, P.info? f.type with
    | some kf, some fi => if f.offset = off ∧ fi.size = kf.length ∧ f.name ≠ "_" then (flatF P g fs (off + kf.length)).map (kf ++ ·) else none
    | _, _ => none
def flatK (P : Program) : Nat → TypeId → Option (List Tk)
  | 0, _ => none
  | m + 1, t => match P.underlying t with
    | some .bool => some [.b]
    | some .string => some [.s]
    | some (.int k) => some [.i k]
    | some (.array n e) => match flatK P m e, P.info? e with
      | some ke, some ie => if ie.size = ke.length then some (rep ke n) else none
      | _, _ => none
    | some (.struct fs) => if P.stoodInHeld t = true then none else flatF P (flatK P m) fs.toList 0
    | _ => none

def vOf (P : Program) (t : TypeId) (l : List Value) : Value := match P.underlying t with
  | some (.array _ _) | some (.struct _) => .agg ⟨l⟩
  | _ => l.headD undef

section
variable {P : Program}
theorem cells_one {k : Tk} {l : List Value} (h : cellsOk [k] l = true) : ∃ v, l = [v] ∧ tkOk k v = true := by
  have hl := cellsOk_length h
  match l, hl with
  | [v], _ =>
    rw [cellsOk_cons, Bool.and_eq_true] at h
    exact ⟨v, rfl, h.1⟩

def EqC (P : Program) (d : Nat) (t : TypeId) (ks : List Tk) : Prop := ∀ (w : World) (l l' : List Value), cellsOk ks l = true → cellsOk ks l' = true → (Op.equalIn d t (vOf P t l) (vOf P t l')).run P w = .ok (cellsEq l l') w

theorem run_part_cells {e : TypeId} {m : Nat} {ke : List Tk} (he : flatK P m e = some ke) {ie : TypeInfo} (hi : P.info? e = some ie) (hs : ie.size = ke.length) (w : World) (l : List Value) (off : Nat) (hc : cellsOk ke ((l.drop off).take ke.length) = true) :
    (part e ⟨l⟩ off).run P w = .ok (vOf P e ((l.drop off).take ke.length)) w := by
  cases m with
  | zero => cases he
  | succ m =>
    have hlen := cellsOk_length hc
    have scalar : ∀ {td : TypeDesc}, P.underlying e = some td → td.isRow = false → ke.length = 1 → (∀ l : List Value, vOf P e l = l.headD undef) → (part e ⟨l⟩ off).run P w = .ok (vOf P e ((l.drop off).take ke.length)) w := by
      intro td hu ha h1 hv
      rw [hv]
      rw [h1] at hlen ⊢
      match hq : (l.drop off).take 1, hlen with
      | [v], _ =>
        refine run_part1 hu ha ?_
        have : ((l.drop off).take 1)[0]? = some v := by rw [hq]; rfl
        rw [List.getElem?_take, if_pos (by omega), List.getElem?_drop] at this
        simpa using this
    have agg : ∀ {td : TypeDesc}, P.underlying e = some td → td.isRow = true → (∀ l : List Value, vOf P e l = .agg ⟨l⟩) → (part e ⟨l⟩ off).run P w = .ok (vOf P e ((l.drop off).take ke.length)) w := by
      intro td hu ha hv
      rw [hv, run_partN hu ha hi]
      congr 2
      apply Array.ext'
      rw [Array.toList_extract, hs]
      simp [List.extract]
    unfold flatK at he
    cases hu : P.underlying e with
    | none => simp [hu] at he
    | some td =>
      cases td <;> simp only [hu, reduceCtorEq, Option.some.injEq] at he
      case bool => subst he; exact scalar hu rfl rfl fun l => by simp [vOf, hu]
      case int k => subst he; exact scalar hu rfl rfl fun l => by simp [vOf, hu]
      case string => subst he; exact scalar hu rfl rfl fun l => by simp [vOf, hu]
      case array n e' => exact agg hu rfl fun l => by simp [vOf, hu]
      case struct fs => exact agg hu rfl fun l => by simp [vOf, hu]

theorem run_items_cells {e : TypeId} {m d : Nat} {ke : List Tk} (he : flatK P m e = some ke) {ie : TypeInfo} (hi : P.info? e = some ie) (hs : ie.size = ke.length) (IH : EqC P d e ke) : ∀ (n k : Nat) (w : World) (l l' : List Value),
    cellsOk (rep ke n) (l.drop (k * ke.length)) = true → cellsOk (rep ke n) (l'.drop (k * ke.length)) = true →
    (Op.eqItems d e (P.cellsOf e) ⟨l⟩ ⟨l'⟩ (List.range' k n)).run P w = .ok (cellsEq (l.drop (k * ke.length)) (l'.drop (k * ke.length))) w
  | 0, k, w, l, l', h, h' => by
    have h1 := cellsOk_length h
    have h2 := cellsOk_length h'
    have e1 : l.drop (k * ke.length) = [] := List.eq_nil_of_length_eq_zero h1
    have e2 : l'.drop (k * ke.length) = [] := List.eq_nil_of_length_eq_zero h2
    rw [e1, e2]
    simp [Op.eqItems, cellsEq]
  | n + 1, k, w, l, l', h, h' => by
    rw [rep_succ] at h h'
    obtain ⟨a1, a2⟩ := cellsOk_append h
    obtain ⟨b1, b2⟩ := cellsOk_append h'
    have hcs : P.cellsOf e = ke.length := by simp [Program.cellsOf, hi, hs]
    have hl : (l.drop (k * ke.length)).length = (l'.drop (k * ke.length)).length := by rw [cellsOk_length h, cellsOk_length h']
    have p1 := run_part_cells he hi hs w l (k * ke.length) a1
    have p2 := run_part_cells he hi hs w l' (k * ke.length) b1
    have hq := IH w _ _ a1 b1
    rw [List.drop_drop, ← Nat.succ_mul] at a2 b2
    have ih := run_items_cells he hi hs IH n (k + 1) w l l' a2 b2
    rw [hcs] at ih ⊢
    rw [List.range'_succ, cellsEq_append ke.length _ _ hl, List.drop_drop, List.drop_drop, ← Nat.succ_mul]
    simp only [Op.eqItems, Sem.run_bind, p1, p2, hq, Result.andThen_ok]
    cases cellsEq ((l.drop (k * ke.length)).take ke.length) ((l'.drop (k * ke.length)).take ke.length)
    · rfl
    · simpa using ih

theorem run_fields_cells {m d : Nat} (IH : ∀ t ks, flatK P m t = some ks → EqC P d t ks) : ∀ (fs : List Field) (off : Nat) (ks : List Tk) (w : World) (l l' : List Value), flatF P (flatK P m) fs off = some ks →
    cellsOk ks (l.drop off) = true → cellsOk ks (l'.drop off) = true → (Op.eqFields d ⟨l⟩ ⟨l'⟩ fs).run P w = .ok (cellsEq (l.drop off) (l'.drop off)) w
  | [], off, ks, w, l, l', hf, h, h' => by
    injection hf with hf; subst hf
    have e1 : l.drop off = [] := List.eq_nil_of_length_eq_zero (cellsOk_length h)
    have e2 : l'.drop off = [] := List.eq_nil_of_length_eq_zero (cellsOk_length h')
    rw [e1, e2]
    simp [Op.eqFields, cellsEq]
  | f :: fs, off, ks, w, l, l', hf, h, h' => by
    simp only [flatF] at hf
    split at hf
    · rename_i kf fi hk hi
      split at hf
      · rename_i hc
        obtain ⟨rfl, hs, hn⟩ := hc
        cases hr : flatF P (flatK P m) fs (f.offset + kf.length) with
        | none => simp [hr] at hf
        | some kr =>
          simp only [hr, Option.map_some, Option.some.injEq] at hf
          subst hf
          obtain ⟨a1, a2⟩ := cellsOk_append h
          obtain ⟨b1, b2⟩ := cellsOk_append h'
          have hl : (l.drop f.offset).length = (l'.drop f.offset).length := by rw [cellsOk_length h, cellsOk_length h']
          have p1 := run_part_cells hk hi hs w l f.offset a1
          have p2 := run_part_cells hk hi hs w l' f.offset b1
          have hq := IH f.type kf hk w _ _ a1 b1
          rw [List.drop_drop] at a2 b2
          have ih := run_fields_cells IH fs _ kr w l l' hr a2 b2
          rw [cellsEq_append kf.length _ _ hl, List.drop_drop, List.drop_drop]
          simp only [Op.eqFields, hn, ne_eq, not_false_eq_true, if_true, Sem.run_bind, p1, p2, hq, Result.andThen_ok]
          cases cellsEq ((l.drop f.offset).take kf.length) ((l'.drop f.offset).take kf.length)
          · rfl
          · simpa using ih
      · cases hf
    · cases hf

theorem equal_cells (d : Nat) : ∀ (m : Nat) (t : TypeId) (ks : List Tk), flatK P m t = some ks → EqC P (d + m) t ks
  | 0, _, _, h => by cases h
  | m + 1, t, ks, hk => by
    intro w l l' h h'
    unfold flatK at hk
    cases hu : P.underlying t with
    | none => simp [hu] at hk
    | some td =>
      cases td <;> simp only [hu, reduceCtorEq, Option.some.injEq] at hk
      case bool =>
        subst hk
        obtain ⟨v, rfl, hv⟩ := cells_one h
        obtain ⟨v', rfl, hv'⟩ := cells_one h'
        cases v <;> simp only [tkOk, Bool.false_eq_true] at hv
        cases v' <;> simp only [tkOk, Bool.false_eq_true] at hv'
        rename_i a b
        have := run_equalIn_o (P := P) (E := fun _ => none) (w := w) (d := d + m) hu (.bool a) (.bool b) rfl rfl (b := Bool.rec (Bool.rec true false b) b a) rfl
        rw [cellsEq_cons]
        simp only [vOf, hu, List.headD_cons]
        rw [show d + (m + 1) = d + m + 1 from rfl, this]
        cases a <;> cases b <;> rfl
      case int k =>
        subst hk
        obtain ⟨v, rfl, hv⟩ := cells_one h
        obtain ⟨v', rfl, hv'⟩ := cells_one h'
        cases v <;> simp only [tkOk, Bool.false_eq_true] at hv
        cases v' <;> simp only [tkOk, Bool.false_eq_true] at hv'
        have e1 := keq_eq hv
        have e2 := keq_eq hv'
        subst e1
        subst e2
        rename_i a b
        rw [cellsEq_cons]
        simp only [vOf, hu, List.headD_cons]
        rw [show d + (m + 1) = d + m + 1 from rfl, run_equalIn_int w _ t _ _ a b hu]
        simp [ceq, ieq_eq, cellsEq]
      case string =>
        subst hk
        obtain ⟨v, rfl, hv⟩ := cells_one h
        obtain ⟨v', rfl, hv'⟩ := cells_one h'
        cases v <;> simp only [tkOk, Bool.false_eq_true] at hv
        cases v' <;> simp only [tkOk, Bool.false_eq_true] at hv'
        rename_i a b
        have := run_equalIn_o (P := P) (E := fun _ => none) (w := w) (d := d + m) hu (.str a) (.str b) rfl rfl (b := blist a.data.toList b.data.toList) rfl
        rw [cellsEq_cons]
        simp only [vOf, hu, List.headD_cons]
        rw [show d + (m + 1) = d + m + 1 from rfl, this]
        simp [ceq, cellsEq]
      case array n e =>
        split at hk
        · rename_i ke ie hke hie
          split at hk
          · rename_i hs
            injection hk with hk; subst hk
            simp only [vOf, hu]
            rw [show d + (m + 1) = d + m + 1 from rfl, run_equalIn_array w (d + m) _ _ hu hie, List.range_eq_range']
            have := run_items_cells hke hie hs (equal_cells d m e ke hke) n 0 w l l' (by simpa using h) (by simpa using h')
            simpa using this
          · cases hk
        · cases hk
      case struct fs =>
        split at hk
        · cases hk
        · rename_i hst
          have hfs : P.fieldsOf t = fs := by simp [Program.fieldsOf, hu]
          simp only [vOf, hu]
          rw [show d + (m + 1) = d + m + 1 from rfl, run_equalIn_struct w (d + m) t _ _ (by rw [hfs]; exact hu) (by simpa using hst), hfs]
          have := run_fields_cells (fun t ks h => equal_cells d m t ks h) fs.toList 0 ks w l l' hk (by simpa using h) (by simpa using h')
          simpa using this
end

section
variable {P : Program} {o : Oper} {rg : Reg} {hp : Hp} {nx wm : Nat} {G : Gh} {E : Env} {w : World}
theorem cells_same {ks : List Tk} : ∀ {l m : List Value}, cellsOk ks l = true → LR E l m → m = l := by
  induction ks with
  | nil => intro l m h hl; cases l with
    | nil => cases hl; rfl
    | cons v l => cases h
  | cons k ks ih => intro l m h hl; cases l with
    | nil => cases h
    | cons v l =>
      rw [cellsOk_cons, Bool.and_eq_true] at h
      cases hl with
      | cons hv hl =>
        rw [ih h.2 hl]
        congr 1
        cases k <;> cases v <;> simp only [tkOk, Bool.false_eq_true, and_false, false_and] at h
        · exact hv.bool_inv
        · exact hv.str_inv
        · exact hv.int_inv

theorem run_equal_agg {t : TypeId} {m : Nat} (hm : m ≤ 10000) {ks : List Tk} (hk : flatK P m t = some ks) (hr : (match P.underlying t with | some (.array _ _) | some (.struct _) => true | _ => false) = true) {l l' : List Value} (h : cellsOk ks l = true) (h' : cellsOk ks l' = true) :
    (Op.equal t (.agg ⟨l⟩) (.agg ⟨l'⟩)).run P w = .ok (cellsEq l l') w := by
  have := equal_cells (P := P) (10000 - m) m t ks hk w l l' h h'
  rw [show 10000 - m + m = 10000 by omega] at this
  have hv : ∀ l : List Value, vOf P t l = .agg ⟨l⟩ := by
    intro l
    unfold vOf
    split <;> simp_all
  rw [hv, hv] at this
  exact this

theorem does_eqAgg {op : BinOp} {t u : TypeId} {x y : Operand} (ho : o.op = .binOp op t x y u) (hop : op = .eql ∨ op = .neq) {m : Nat} (hm : m ≤ 10000) {ks : List Tk} (hk : flatK P m t = some ks) (hr : (match P.underlying t with | some (.array _ _) | some (.struct _) => true | _ => false) = true)
    (hg : P.eqGuardType P.depth t = false) {l l' : List Value} (hx : opv rg x = some (.agg ⟨l⟩)) (hy : opv rg y = some (.agg ⟨l'⟩)) (h : cellsOk ks l = true) (h' : cellsOk ks l' = true) :
    Does P o rg hp nx wm (.bool (Bool.rec (cellsEq l l') (not (cellsEq l l')) (match op with | .neq => true | _ => false))) hp nx wm :=
  .pure fun G E ac w hr' hrr => by
    obtain ⟨a, hxv, hl, _⟩ := agg_inv (opv_eval hrr hx)
    obtain ⟨b, hyv, hl', _⟩ := agg_inv (opv_eval hrr hy)
    rw [cells_same h hl] at hxv
    rw [cells_same h' hl'] at hyv
    have heq := run_equal_agg (P := P) (w := w) hm hk hr h h'
    refine ⟨_, ?_, .bool _⟩
    rcases hop with rfl | rfl <;> simp [execOp, ho, hxv, hyv, eqGuard, hg, binOp, heq]
end
end
end Go.Proofs.YtdgllpcfmkjfhaaGreat
/- What the evaluator's built-in functions and its maps do, and that the machine does it. Over any program. -/
namespace Go.Proofs.YtdgllpcfmkjfhaaGreat
open Go.RowKit
noncomputable section
section
variable {P : Program} {o : Oper} {rg : Reg} {hp : Hp} {nx wm : Nat} {G : Gh} {E : Env} {w : World}

theorem run_b1 {b : Builtin} {x : Operand} {t : TypeId} (ho : o.op = .call ⟨.builtin b, ⟨[x]⟩, ⟨[t]⟩⟩) (a : Act) : ∃ cs, (execOp a.eval o).run P w = (builtin b #[t] o.type cs #[a.eval x]).run P w :=
  ⟨_, by simp [execOp, ho, resolve, invoke]; rfl⟩
theorem run_b2 {b : Builtin} {x y : Operand} {t u : TypeId} (ho : o.op = .call ⟨.builtin b, ⟨[x, y]⟩, ⟨[t, u]⟩⟩) (a : Act) : ∃ cs, (execOp a.eval o).run P w = (builtin b #[t, u] o.type cs #[a.eval x, a.eval y]).run P w :=
  ⟨_, by simp [execOp, ho, resolve, invoke]; rfl⟩

/-! ### Lengths -/
theorem does_lenSlc {x : Operand} {t : TypeId} (ho : o.op = .call ⟨.builtin .len, ⟨[x]⟩, ⟨[t]⟩⟩) {el : TypeId} (ht : P.underlying t = some (.slice el)) {a : Option Addr} {l c : Nat} (hx : opv rg x = some (.slice a l c)) : Does P o rg hp nx wm (.int .i64 (.ofNat l)) hp nx wm :=
  .pure fun G E ac w hr hg => by
    obtain ⟨cs, hrun⟩ := run_b1 (P := P) (w := w) ho ac
    have hxv := opv_eval hg hx
    refine ⟨_, ?_, .int _ _⟩
    rw [hrun]
    revert hxv
    generalize ac.eval x = q
    intro hxv
    have key : ∃ a' l' c', q = .slice a' l' c' ∧ l' = l := by
      cases a with
      | none => cases hxv with | nils => exact ⟨_, _, _, rfl, rfl⟩
      | some a =>
        rcases hxv.slice_cases with ⟨n', b, base, ext, k', e, ha, hv', hlt⟩ | ⟨n', b, base, ext, k', c0, s, c', e, ha, hv', hce, h0, hs1, hle, hf⟩ | ⟨a', c', hv', h0, hV⟩
        · exact ⟨_, _, _, hv', rfl⟩
        · exact ⟨_, _, _, hv', rfl⟩
        · exact ⟨_, _, _, hv', h0.symm⟩
    obtain ⟨a', l', c', rfl, rfl⟩ := key
    simp [builtin, Builtin.len_, run_underlying ht, goInt]
theorem does_lenStr {x : Operand} {t : TypeId} (ho : o.op = .call ⟨.builtin .len, ⟨[x]⟩, ⟨[t]⟩⟩) (ht : P.underlying t = some .string) {s : ByteArray} (hx : opv rg x = some (.string s)) : Does P o rg hp nx wm (.int .i64 (.ofNat s.size)) hp nx wm :=
  .pure fun G E ac w hr hg => by
    obtain ⟨cs, hrun⟩ := run_b1 (P := P) (w := w) ho ac
    refine ⟨_, ?_, .int _ _⟩
    rw [hrun, (opv_eval hg hx).str_inv]
    simp [builtin, Builtin.len_, run_underlying ht, goInt]
theorem does_lenArr {x : Operand} {t : TypeId} (ho : o.op = .call ⟨.builtin .len, ⟨[x]⟩, ⟨[t]⟩⟩) {n : Nat} {el : TypeId} (ht : P.underlying t = some (.array n el)) {v : Value} (hx : opv rg x = some v) : Does P o rg hp nx wm (.int .i64 (.ofNat n)) hp nx wm :=
  .pure fun G E ac w hr hg => by
    obtain ⟨cs, hrun⟩ := run_b1 (P := P) (w := w) ho ac
    refine ⟨_, ?_, .int _ _⟩
    rw [hrun]
    simp [builtin, Builtin.len_, run_underlying ht, goInt]
theorem does_lenPtr {x : Operand} {t : TypeId} (ho : o.op = .call ⟨.builtin .len, ⟨[x]⟩, ⟨[t]⟩⟩) {u : TypeId} (ht : P.underlying t = some (.pointer u)) {n : Nat} {el : TypeId} (hu : P.underlying u = some (.array n el)) {v : Value} (hx : opv rg x = some v) : Does P o rg hp nx wm (.int .i64 (.ofNat n)) hp nx wm :=
  .pure fun G E ac w hr hg => by
    obtain ⟨cs, hrun⟩ := run_b1 (P := P) (w := w) ho ac
    refine ⟨_, ?_, .int _ _⟩
    rw [hrun]
    simp [builtin, Builtin.len_, run_underlying ht, run_underlying hu, goInt]

theorem MR.length {E : Env} : ∀ {l m : List MapEntry}, MR E l m → l.length = m.length
  | [], [], _ => rfl
  | _ :: _, _ :: _, h => by simp [MR.length h.2.2.2]
  | [], _ :: _, h => h.elim
  | _ :: _, [], h => h.elim
theorem VR.map_inv {n : Nat} {v' : Value} (h : VR E (.map (some n)) v') : ∃ b base ext, E n = some (b, base, ext) ∧ v' = .map (some b) := by
  cases h with | map h => exact ⟨_, _, _, h, rfl⟩
theorem does_lenMap {x : Operand} {t : TypeId} (ho : o.op = .call ⟨.builtin .len, ⟨[x]⟩, ⟨[t]⟩⟩) {k e : TypeId} (ht : P.underlying t = some (.map k e)) {n : Nat} (hx : opv rg x = some (.map (some n))) {rw : Bool} {ks : List Tk} {es : List MapEntry} {cl : Nat} (hg5 : g5 n hp = some (.mp rw ks es cl)) :
    Does P o rg hp nx wm (.int .i64 (.ofNat (len es))) hp nx wm :=
  .pure fun G E ac w hr hg => by
    obtain ⟨cs, hrun⟩ := run_b1 (P := P) (w := w) ho ac
    obtain ⟨b, base, ext, e, hxv⟩ := (opv_eval hg hx).map_inv
    obtain ⟨es', h1, h2, _⟩ := hr.blk n _ _ e hg5
    refine ⟨_, ?_, .int _ _⟩
    rw [hrun, hxv, len_eq, h2.length]
    simp [builtin, Builtin.len_, run_underlying ht, goInt, getObj, Sem.run, h1]

theorem does_cap {x : Operand} {t : TypeId} (ho : o.op = .call ⟨.builtin .cap, ⟨[x]⟩, ⟨[t]⟩⟩) {el : TypeId} (ht : P.underlying t = some (.slice el)) {a : Option Addr} {l c : Nat} (hx : opv rg x = some (.slice a l c)) (hc : c < OM) : Does P o rg hp nx wm (.int .i64 (.ofNat c)) hp nx wm :=
  .pure fun G E ac w hr hg => by
    obtain ⟨cs, hrun⟩ := run_b1 (P := P) (w := w) ho ac
    have hxv := opv_eval hg hx
    refine ⟨_, ?_, .int _ _⟩
    rw [hrun]
    revert hxv
    generalize ac.eval x = q
    intro hxv
    have key : ∃ a' l', q = .slice a' l' c := by
      cases a with
      | none => cases hxv with | nils => exact ⟨_, _, rfl⟩
      | some a =>
        rcases hxv.slice_cases with ⟨n', b, base, ext, k', e, ha, hv', hlt⟩ | ⟨n', b, base, ext, k', c0, s, c', e, ha, hv', hce, h0, hs1, hle, hf⟩ | ⟨a', c', hv', h0, hV⟩
        · exact ⟨_, _, hv'⟩
        · rw [hce] at hc; exact absurd hc (by simp only [OM]; omega)
        · rw [hV] at hc; exact absurd hc (by simp only [OM, VG]; omega)
    obtain ⟨a', l', rfl⟩ := key
    simp [builtin, Builtin.cap_, run_underlying ht, goInt]

/-! ### The least and the greatest of two -/
theorem does_max {x y : Operand} {t u : TypeId} (ho : o.op = .call ⟨.builtin .max, ⟨[x, y]⟩, ⟨[t, u]⟩⟩) {k j : IntKind} {m n : Int} (hx : opv rg x = some (.int k m)) (hy : opv rg y = some (.int j n)) :
    Does P o rg hp nx wm (.int k (Bool.rec m n (ilt m n))) hp nx wm :=
  .pure fun G E ac w hr hg => by
    obtain ⟨cs, hrun⟩ := run_b2 (P := P) (w := w) ho ac
    refine ⟨_, ?_, .int _ _⟩
    rw [hrun, (opv_eval hg hx).int_inv, (opv_eval hg hy).int_inv]
    by_cases h : m < n
    · have : ilt m n = true := by rw [ilt_eq]; simpa using h
      simp [builtin, Builtin.max_, Builtin.max2, h, this]
    · have : ilt m n = false := by rw [ilt_eq]; simpa using h
      simp [builtin, Builtin.max_, Builtin.max2, h, this]
theorem does_min {x y : Operand} {t u : TypeId} (ho : o.op = .call ⟨.builtin .min, ⟨[x, y]⟩, ⟨[t, u]⟩⟩) {k j : IntKind} {m n : Int} (hx : opv rg x = some (.int k m)) (hy : opv rg y = some (.int j n)) :
    Does P o rg hp nx wm (.int k (Bool.rec m n (ilt n m))) hp nx wm :=
  .pure fun G E ac w hr hg => by
    obtain ⟨cs, hrun⟩ := run_b2 (P := P) (w := w) ho ac
    refine ⟨_, ?_, .int _ _⟩
    rw [hrun, (opv_eval hg hx).int_inv, (opv_eval hg hy).int_inv]
    by_cases h : n < m
    · have : ilt n m = true := by rw [ilt_eq]; simpa using h
      simp [builtin, Builtin.min_, Builtin.min2, h, this]
    · have : ilt n m = false := by rw [ilt_eq]; simpa using h
      simp [builtin, Builtin.min_, Builtin.min2, h, this]

/-! ### Copies -/
theorem does_copy {x y : Operand} {t u : TypeId} (ho : o.op = .call ⟨.builtin .copy, ⟨[x, y]⟩, ⟨[t, u]⟩⟩) {el : TypeId} (ht : P.underlying t = some (.slice el)) {i : TypeInfo} (hi : P.info? el = some i)
    {n k l c : Nat} (hx : opv rg x = some (.slice (some ⟨n, k, none⟩) l c)) {cs : List Value} (hg5 : g5 n hp = some (.row cs)) {n' k' l' c' : Nat} (hy : opv rg y = some (.slice (some ⟨n', k', none⟩) l' c')) {cs' : List Value} (hg5' : g5 n' hp = some (.row cs'))
    {m : Nat} (hm : m = min l' l) (hm0 : 0 < m) (hk' : k' + m * i.size ≤ cs'.length) (hk : k + m * i.size ≤ cs.length) :
    Does P o rg hp nx wm (.int .i64 (.ofNat m)) (s5 n (some (.row (putAt (takeN (dropN cs' k') (m * i.size)) cs k))) hp) nx (min wm n) := fun G E ac w hr hg => by
  obtain ⟨cc, hrun⟩ := run_b2 (P := P) (w := w) ho ac
  obtain ⟨b, base, ext, c1, e, hxv⟩ := (opv_eval hg hx).slice_inv (by omega)
  obtain ⟨b', base', ext', c1', e', hyv⟩ := (opv_eval hg hy).slice_inv (by omega)
  have hb := hr.blk n' _ _ e' hg5'
  obtain ⟨us, h1, h2, h3⟩ := hb.range k' (m * i.size) hk'
  obtain ⟨_, _, _, _, _, hone, _⟩ := hb
  have hlen : (List.take (m * i.size) (List.drop k' cs')).length = m * i.size := by rw [List.length_take, List.length_drop]; omega
  obtain ⟨w', hst, hpost⟩ := store_row (P := P) (wm := wm) hr e hg5 h3 (LR.all_mid hone k' (m * i.size)) k (by rw [hlen]; exact hk)
  refine ⟨E, .int .i64 (.ofNat m), w', .inl ?_, .int _ _, by rw [takeN_eq, dropN_eq]; exact hpost⟩
  have hl := run_loadCells_list (P := P) w ⟨b', base' + k', none⟩ us (fun j v hv => by rw [Addr.add_mid]; exact h1 j v hv)
  rw [h2] at hl
  have hmin : Nat.min l' l = m := hm.symm
  rw [hrun, hxv, hyv]
  simp [builtin, Builtin.copy_, run_underlying ht, Builtin.lenOf, Builtin.firstCells, sizeOf, typeInfo, hi, hmin, hl, hst, goInt]
theorem does_copy0 {x y : Operand} {t u : TypeId} (ho : o.op = .call ⟨.builtin .copy, ⟨[x, y]⟩, ⟨[t, u]⟩⟩) {el : TypeId} (ht : P.underlying t = some (.slice el)) {i : TypeInfo} (hi : P.info? el = some i)
    {a a' : Option Addr} {l c l' c' : Nat} (hx : opv rg x = some (.slice a l c)) (hy : opv rg y = some (.slice a' l' c')) (hm : l = 0 ∨ l' = 0) :
    Does P o rg hp nx wm (.int .i64 (.ofNat 0)) hp nx wm :=
  .pure fun G E ac w hr hg => by
    obtain ⟨cc, hrun⟩ := run_b2 (P := P) (w := w) ho ac
    have key : ∀ {a : Option Addr} {l c : Nat} {q : Value}, VR E (.slice a l c) q → ∃ a' c', q = .slice a' l c' := by
      intro a l c q hxv
      cases a with
      | none => cases hxv with | nils => exact ⟨_, _, rfl⟩
      | some a =>
        rcases hxv.slice_cases with ⟨n', b, base, ext, k', e, ha, hv', hlt⟩ | ⟨n', b, base, ext, k', c0, s, c', e, ha, hv', hce, h0, hs1, hle, hf⟩ | ⟨a', c', hv', h0, hV⟩
        · exact ⟨_, _, hv'⟩
        · exact ⟨_, _, hv'⟩
        · exact ⟨_, _, by rw [hv', h0]⟩
    obtain ⟨p, q, hxv⟩ := key (opv_eval hg hx)
    obtain ⟨p', q', hyv⟩ := key (opv_eval hg hy)
    refine ⟨.int .i64 (.ofNat 0), ?_, .int _ _⟩
    have hmin : Nat.min l' l = 0 := by show min l' l = 0; omega
    have hl : ∀ a : Addr, (loadCells a 0).run P w = .ok #[] w := fun a => rfl
    rw [hrun, hxv, hyv]
    cases p <;> cases p' <;> simp [builtin, Builtin.copy_, run_underlying ht, Builtin.lenOf, Builtin.firstCells, sizeOf, typeInfo, hi, hmin, hl, goInt, storeCells]

theorem does_clear {x : Operand} {t : TypeId} (ho : o.op = .call ⟨.builtin .clear, ⟨[x]⟩, ⟨[t]⟩⟩) {el : TypeId} (ht : P.underlying t = some (.slice el)) {i : TypeInfo} (hi : P.info? el = some i) {z : Value} (hz : i.zero = some z) (hzc : (lcells z).all scB = true) (hzs : (lcells z).length = i.size)
    {n k l c : Nat} (hx : opv rg x = some (.slice (some ⟨n, k, none⟩) l c)) {cs : List Value} (hg5 : g5 n hp = some (.row cs)) (hl : 0 < l) (hk : k + l * i.size ≤ cs.length) :
    Does P o rg hp nx wm (.tuple #[]) (s5 n (some (.row (putAt (rep (lcells z) l) cs k))) hp) nx (min wm n) := fun G E ac w hr hg => by
  obtain ⟨cc, hrun⟩ := run_b1 (P := P) (w := w) ho ac
  obtain ⟨b, base, ext, c1, e, hxv⟩ := (opv_eval hg hx).slice_inv hl
  have hzr := LR.sc E (rep_all hzc l)
  obtain ⟨w', hst, hpost⟩ := store_row (P := P) (wm := wm) hr e hg5 hzr.1 hzr.2 k (by rw [rep_length, hzs]; exact hk)
  refine ⟨E, .tuple #[], w', .inl ?_, .tup .nil, hpost⟩
  have hzz : (Builtin.zeroCells z.cells l).toList = rep (lcells z) l := by rw [lcells_eq]; exact zeroCells_rep z.cells l
  rw [hrun, hxv]
  obtain ⟨l, rfl⟩ : ∃ l', l = l' + 1 := ⟨l - 1, by omega⟩
  simp [builtin, Builtin.clear_, run_underlying ht, zeroValue, typeInfo, hi, hz, hzz, hst]
theorem does_clear0 {x : Operand} {t : TypeId} (ho : o.op = .call ⟨.builtin .clear, ⟨[x]⟩, ⟨[t]⟩⟩) {el : TypeId} (ht : P.underlying t = some (.slice el)) {a : Option Addr} {c : Nat} (hx : opv rg x = some (.slice a 0 c)) :
    Does P o rg hp nx wm (.tuple #[]) hp nx wm :=
  .pure fun G E ac w hr hg => by
    obtain ⟨cc, hrun⟩ := run_b1 (P := P) (w := w) ho ac
    have hxv := opv_eval hg hx
    refine ⟨_, ?_, .tup .nil⟩
    rw [hrun]
    revert hxv
    generalize ac.eval x = q
    intro hxv
    have key : ∃ a' c', q = .slice a' 0 c' := by
      cases a with
      | none => cases hxv with | nils => exact ⟨_, _, rfl⟩
      | some a =>
        rcases hxv.slice_cases with ⟨n', b, base, ext, k', e, ha, hv', hlt⟩ | ⟨n', b, base, ext, k', c0, s, c', e, ha, hv', hce, h0, hs1, hle, hf⟩ | ⟨a', c', hv', h0, hV⟩
        · exact ⟨_, _, hv'⟩
        · exact ⟨_, _, hv'⟩
        · exact ⟨_, _, hv'⟩
    obtain ⟨a', c', rfl⟩ := key
    cases a' <;> simp [builtin, Builtin.clear_, run_underlying ht]
end
end
end Go.Proofs.YtdgllpcfmkjfhaaGreat
/- What the evaluator's maps do, and that the machine does it. Over any program. -/
namespace Go.Proofs.YtdgllpcfmkjfhaaGreat
open Go.RowKit
noncomputable section
section
variable {P : Program} {o : Oper} {rg : Reg} {hp : Hp} {nx wm : Nat} {G : Gh} {E : Env} {w : World}

/-! ### Keys -/
theorem run_check_cells (em : Bool) (d : Nat) : ∀ (m : Nat) (t : TypeId) (ks : List Tk), flatK P m t = some ks → ∀ (w : World) (l : List Value), cellsOk ks l = true → (Instr.checkKey em (d + m) t (vOf P t l)).run P w = .ok () w
  | 0, _, _, h => by cases h
  | m + 1, t, ks, hk => by
    intro w l h
    unfold flatK at hk
    rw [show d + (m + 1) = d + m + 1 from rfl, Instr.checkKey]
    cases hu : P.underlying t with
    | none => simp [hu] at hk
    | some td =>
      rw [Sem.run_bind, run_underlying hu, Result.andThen_ok]
      cases td <;> simp only [hu, reduceCtorEq, Option.some.injEq] at hk
      case bool =>
        subst hk
        obtain ⟨v, rfl, hv⟩ := cells_one h
        cases v <;> simp only [tkOk, Bool.false_eq_true] at hv
        simp [vOf, hu]
      case int k =>
        subst hk
        obtain ⟨v, rfl, hv⟩ := cells_one h
        cases v <;> simp only [tkOk, Bool.false_eq_true] at hv
        simp [vOf, hu]
      case string =>
        subst hk
        obtain ⟨v, rfl, hv⟩ := cells_one h
        cases v <;> simp only [tkOk, Bool.false_eq_true] at hv
        simp [vOf, hu]
      case array n e =>
        split at hk
        · rename_i ke ie hke hie
          split at hk
          · rename_i hs
            injection hk with hk; subst hk
            have hv : vOf P t l = .agg ⟨l⟩ := by simp [vOf, hu]
            have IH := run_check_cells em d m e ke hke
            have hcs : (sizeOf e).run P w = .ok ke.length w := by simp [sizeOf, typeInfo, hie, hs]
            rw [hv]
            dsimp only
            simp only [Std.Legacy.Range.forIn_eq_forIn_range', Std.Legacy.Range.size, Nat.sub_zero, Nat.add_one_sub_one, Nat.div_one]
            have key : ∀ (n k : Nat), cellsOk (rep ke n) (l.drop (k * ke.length)) = true → (forIn (List.range' k n) PUnit.unit fun i _ => do
                Instr.checkKey em (d + m) e (← part e ⟨l⟩ (i * (← sizeOf e))); pure (ForInStep.yield PUnit.unit) : Sem PUnit).run P w = .ok PUnit.unit w := by
              intro n
              induction n with
              | zero => intro k _; simp
              | succ n ih =>
                intro k h
                rw [rep_succ] at h
                obtain ⟨a1, a2⟩ := cellsOk_append h
                have p1 := run_part_cells hke hie hs w l (k * ke.length) a1
                have p2 := IH w _ a1
                rw [List.drop_drop, ← Nat.succ_mul] at a2
                rw [List.range'_succ, List.forIn_cons]
                simp only [Sem.run_bind, hcs, Result.andThen_ok, p1, p2, Sem.run_pure]
                exact ih (k + 1) a2
            simpa using key n 0 (by simpa using h)
          · cases hk
        · cases hk
      case struct fs =>
        split at hk
        · cases hk
        · have hv : vOf P t l = .agg ⟨l⟩ := by simp [vOf, hu]
          rw [hv]
          dsimp only
          rw [← Array.forIn_toList]
          have key : ∀ (fs : List Field) (off : Nat) (ks : List Tk), flatF P (flatK P m) fs off = some ks → cellsOk ks (l.drop off) = true → (forIn fs PUnit.unit fun f _ => do
              if f.name ≠ "_" then Instr.checkKey em (d + m) f.type (← part f.type ⟨l⟩ f.offset); pure (ForInStep.yield PUnit.unit)
              else pure (ForInStep.yield PUnit.unit) : Sem PUnit).run P w = .ok PUnit.unit w := by
            intro fs
            induction fs with
            | nil => intro off ks _ _; simp
            | cons f fs ih =>
              intro off ks hf h
              simp only [flatF] at hf
              split at hf
              · rename_i kf fi hkf hi
                split at hf
                · rename_i hc
                  obtain ⟨rfl, hs, hn⟩ := hc
                  cases hr : flatF P (flatK P m) fs (f.offset + kf.length) with
                  | none => simp [hr] at hf
                  | some kr =>
                    simp only [hr, Option.map_some, Option.some.injEq] at hf
                    subst hf
                    obtain ⟨a1, a2⟩ := cellsOk_append h
                    have p1 := run_part_cells hkf hi hs w l f.offset a1
                    have p2 := run_check_cells em d m f.type kf hkf w _ a1
                    rw [List.drop_drop] at a2
                    rw [List.forIn_cons]
                    simp only [hn, ne_eq, not_false_eq_true, if_true, Sem.run_bind, p1, p2, Result.andThen_ok, Sem.run_pure]
                    exact ih _ kr hr a2
                · cases hf
              · cases hf
          have := key fs.toList 0 ks hk (by simpa using h)
          simpa using this

theorem ceq_eq {k : Tk} {a b : Value} (ha : tkOk k a = true) (hb : tkOk k b = true) : ceq a b = true ↔ a = b := by
  cases k <;> cases a <;> simp only [tkOk, Bool.false_eq_true] at ha <;> cases b <;> simp only [tkOk, Bool.false_eq_true] at hb
  · rename_i a b; cases a <;> cases b <;> simp [ceq]
  · rename_i a b
    simp only [ceq, blist_eq, beq_iff_eq, Value.string.injEq]
    exact ⟨fun h => by cases a; cases b; simp only [ByteArray.mk.injEq] at h ⊢; exact Array.toList_inj.1 h, fun h => by rw [h]⟩
  · have e1 := keq_eq ha
    have e2 := keq_eq hb
    subst e1; subst e2
    simp [ceq, ieq_eq]
theorem cellsEq_eq {ks : List Tk} : ∀ {l m : List Value}, cellsOk ks l = true → cellsOk ks m = true → (cellsEq l m = true ↔ l = m) := by
  induction ks with
  | nil => intro l m h h'; cases l with
    | nil => cases m with
      | nil => simp [cellsEq]
      | cons b m => cases h'
    | cons a l => cases h
  | cons k ks ih => intro l m h h'; cases l with
    | nil => cases h
    | cons a l => cases m with
      | nil => cases h'
      | cons b m =>
        rw [cellsOk_cons, Bool.and_eq_true] at h h'
        rw [cellsEq_cons, Bool.and_eq_true, ceq_eq h.1 h'.1, ih h.2 h'.2, List.cons.injEq]

structure KeyT (P : Program) (t : TypeId) (rw : Bool) (ks : List Tk) : Prop where
  flat : ∃ m, m ≤ 10000 ∧ flatK P m t = some ks
  row : rw = (match P.underlying t with | some (.array _ _) | some (.struct _) => true | _ => false)

theorem okKey_split {b : Bool} {ks : List Tk} {v : Value} (h : okKey b ks v = true) : cellsOk ks (lcells v) = true ∧ ((b = true ∧ ∃ l, v = .agg ⟨l⟩) ∨ (b = false ∧ ∀ l, v ≠ .agg l)) := by
  unfold okKey at h
  rw [Bool.and_eq_true] at h
  refine ⟨h.2, ?_⟩
  have h1 := h.1
  cases v <;> simp only [Bool.not_eq_true'] at h1
  case agg l => exact .inl ⟨h1, l.toList, rfl⟩
  all_goals exact .inr ⟨h1, fun l => nofun⟩
theorem okKey_vOf {t : TypeId} {b : Bool} {ks : List Tk} (hk : KeyT P t b ks) {v : Value} (h : okKey b ks v = true) : vOf P t (lcells v) = v := by
  obtain ⟨h1, h2⟩ := okKey_split h
  have hr := hk.row
  unfold vOf
  rcases h2 with ⟨rfl, l, rfl⟩ | ⟨rfl, hn⟩
  · split at hr
    · rename_i hq; first | (rw [hq]; rfl) | rfl
    · rename_i hq; first | (rw [hq]; rfl) | rfl
    · cases hr
  · split
    · rename_i hq; rw [hq] at hr; cases hr
    · rename_i hq; rw [hq] at hr; cases hr
    · cases v <;> first | rfl | exact absurd rfl (hn _)
theorem okKey_same {b : Bool} {ks : List Tk} {v v' : Value} (h : okKey b ks v = true) (hv : VR E v v') : v' = v := by
  obtain ⟨h1, h2⟩ := okKey_split h
  rcases h2 with ⟨_, l, rfl⟩ | ⟨_, hn⟩
  · obtain ⟨m, rfl, hl, _⟩ := agg_inv hv
    have h3 : m = l := cells_same h1 hl
    rw [h3]
  · have ht : noTup v = true := by
      cases v <;> first | rfl | skip
      rename_i vs
      exfalso
      revert h1
      simp only [lcells]
      intro h1
      cases ks with
      | nil => cases h1
      | cons k ks =>
        rw [cellsOk_cons, Bool.and_eq_true] at h1
        cases k <;> exact absurd h1.1 (by simp [tkOk])
    have hc := (hv.cells ht).1
    have := cells_same h1 hc
    have e1 : lcells v = [v] := by cases v <;> first | rfl | exact absurd rfl (hn _)
    rw [e1] at this
    cases v' <;> simp only [Value.cells, List.cons.injEq, and_true] at this
    case agg l =>
      cases hv
      exact absurd rfl (hn _)
    all_goals exact this

def findE (k : Value) (es : List MapEntry) : Nat → Option (Nat × MapEntry) :=
  List.rec (fun _ => none) (fun e _ ih i => Bool.rec (ih (Nat.succ i)) (some (i, e)) (cellsEq (lcells k) (lcells e.key))) es
theorem findE_cons (k : Value) (e : MapEntry) (es : List MapEntry) (i : Nat) : findE k (e :: es) i = if cellsEq (lcells k) (lcells e.key) = true then some (i, e) else findE k es (i + 1) := by
  show Bool.rec (motive := fun _ => Option (Nat × MapEntry)) (findE k es (i + 1)) (some (i, e)) (cellsEq (lcells k) (lcells e.key)) = _
  cases cellsEq (lcells k) (lcells e.key) <;> rfl

theorem run_findKey' {t : TypeId} {b : Bool} {ks : List Tk} (hk : KeyT P t b ks) {k : Value} (hkk : okKey b ks k = true) (es : List MapEntry) (hes : ∀ e ∈ es, okKey b ks e.key = true) :
    (Instr.findKey t k es).run P w = .ok ((findE k es 0).map fun p => (p.1, p.2.val)) w := by
  obtain ⟨m, hm, hf⟩ := hk.flat
  have heq : ∀ e ∈ es, (Op.equal t k e.key).run P w = .ok (cellsEq (lcells k) (lcells e.key)) w := fun e he => by
    have := equal_cells (P := P) (10000 - m) m t ks hf w (lcells k) (lcells e.key) (okKey_split hkk).1 (okKey_split (hes e he)).1
    rw [show 10000 - m + m = 10000 by omega, okKey_vOf hk hkk, okKey_vOf hk (hes e he)] at this
    exact this
  have ask : ∀ (l : List MapEntry) (i : Nat), (∀ e ∈ l, e ∈ es) → (Instr.findAsking t k l i).run P w = .ok ((findE k l i).map fun p => (p.1, p.2.val)) w := by
    intro l
    induction l with
    | nil => intro i _; simp [Instr.findAsking, findE]
    | cons e l ih =>
      intro i hl
      rw [findE_cons]
      simp only [Instr.findAsking, Sem.run_bind, heq e (hl e (by simp)), Result.andThen_ok]
      cases cellsEq (lcells k) (lcells e.key)
      · simpa using ih (i + 1) fun e he => hl e (by simp [he])
      · simp
  have hu : ∃ td, P.underlying t = some td := by
    cases hu : P.underlying t with
    | some td => exact ⟨td, rfl⟩
    | none =>
      cases m with
      | zero => cases hf
      | succ m => simp [flatK, hu] at hf
  obtain ⟨td, hu⟩ := hu
  -- what the quick look finds is what asking finds
  have now : ∀ (l : List MapEntry) (i : Nat) (r : Option (Nat × Value)), (∀ e ∈ l, e ∈ es) → Instr.findNow td k l i = some r → r = (findE k l i).map fun p => (p.1, p.2.val) := by
    intro l
    induction l with
    | nil => intro i r _ h; simp [Instr.findNow] at h; rw [← h]; rfl
    | cons e l ih =>
      intro i r hl h
      rw [findE_cons]
      have he := hes e (hl e (by simp))
      have hsame : ∀ q, Instr.sameNow td k e.key = some q → q = cellsEq (lcells k) (lcells e.key) := by
        intro q
        clear he
        generalize e.key = k2
        intro hq
        unfold Instr.sameNow at hq
        split at hq
        · rename_i kk a kk' b
          simp only [Option.ite_none_right_eq_some, Option.some.injEq] at hq
          obtain ⟨rfl, rfl⟩ := hq
          show (a == b) = _
          simp only [lcells, cellsEq_cons, ceq, ieq_eq]
          cases (a == b) <;> rfl
        · rename_i a b
          simp only [Option.some.injEq] at hq
          subst hq
          simp only [lcells, cellsEq_cons, ceq, blist_eq]
          show (a == b) = _
          cases a; cases b
          rename_i x y
          show (x == y) = _
          rw [Bool.eq_iff_iff]
          simp [cellsEq, Array.toList_inj]
        · rename_i a b
          simp only [Option.some.injEq] at hq
          subst hq
          cases a <;> cases b <;> rfl
        · cases hq
      simp only [Instr.findNow] at h
      split at h
      · rename_i hq
        rw [← hsame _ hq]
        simp at h ⊢
        exact h.symm
      · rename_i hq
        rw [← hsame _ hq]
        exact ih (i + 1) r (fun e he => hl e (by simp [he])) h
      · cases h
  simp only [Instr.findKey, Sem.run_bind, run_underlying hu, Result.andThen_ok]
  cases hq : Instr.findNow td k es 0 with
  | some r => simp [now es 0 r (fun _ h => h) hq]
  | none => exact ask es 0 fun _ h => h

theorem run_checkKey' {t : TypeId} {b : Bool} {ks : List Tk} (hk : KeyT P t b ks) {k : Value} (hkk : okKey b ks k = true) (em : Bool) : (Instr.checkKey em 10000 t k).run P w = .ok () w := by
  obtain ⟨m, hm, hf⟩ := hk.flat
  have := run_check_cells (P := P) em (10000 - m) m t ks hf w (lcells k) (okKey_split hkk).1
  rw [show 10000 - m + m = 10000 by omega, okKey_vOf hk hkk] at this
  exact this

theorem sameBits_cells {ks : List Tk} : ∀ {l : List Value}, cellsOk ks l = true → ∀ v ∈ l, ∀ n, Instr.sameBits (n + 1) v v = true := by
  induction ks with
  | nil => intro l h; cases l with
    | nil => intro v hv; cases hv
    | cons a l => cases h
  | cons k ks ih => intro l h; cases l with
    | nil => cases h
    | cons a l =>
      rw [cellsOk_cons, Bool.and_eq_true] at h
      intro v hv n
      cases hv with
      | head => cases k <;> cases a <;> simp only [tkOk, Bool.false_eq_true, false_and] at h <;> first | (simp [Instr.sameBits]; done) | (rename_i s; cases s; rename_i x; show (x == x) = true; simp)
      | tail _ hv => exact ih h.2 v hv n
theorem run_stays {b : Bool} {ks : List Tk} {k : Value} (hkk : okKey b ks k = true) : (Instr.keyThatStays k k).run P w = .ok k w := by
  obtain ⟨h1, h2⟩ := okKey_split hkk
  have hs : Instr.sameBits 10000 k k = true := by
    rcases h2 with ⟨_, l, rfl⟩ | ⟨_, hn⟩
    · simp only [Instr.sameBits, beq_self_eq_true, Bool.true_and]
      rw [List.all_eq_true]
      intro p hp
      have hp' : p.1 = p.2 ∧ p.1 ∈ l := by
        clear h1 hkk
        revert hp
        show p ∈ l.zip l → _
        induction l with
        | nil => intro h; cases h
        | cons a l ih => intro h; cases h with
          | head => exact ⟨rfl, by simp⟩
          | tail _ h => obtain ⟨e, m⟩ := ih h; exact ⟨e, by simp [m]⟩
      obtain ⟨e, hm⟩ := hp'
      rw [← e]
      exact sameBits_cells h1 p.1 hm 9998
    · have e1 : lcells k = [k] := by cases k <;> first | rfl | exact absurd rfl (hn _)
      exact sameBits_cells h1 k (by rw [e1]; simp) 9999
  simp [Instr.keyThatStays, hs]
end
end
end Go.Proofs.YtdgllpcfmkjfhaaGreat
/- What the evaluator's operations on maps do, and that the machine does it. Over any program. -/
namespace Go.Proofs.YtdgllpcfmkjfhaaGreat
open Go.RowKit
noncomputable section

def setN {α : Type} (a : α) (l : List α) : Nat → List α := List.rec (fun _ => []) (fun b l ih n => Nat.rec (a :: l) (fun k _ => b :: ih k) n) l
def delN {α : Type} (l : List α) : Nat → List α := List.rec (fun _ => []) (fun b l ih n => Nat.rec l (fun k _ => b :: ih k) n) l
theorem setN_eq {α : Type} (a : α) (l : List α) : ∀ n, setN a l n = l.set n a := by
  induction l with
  | nil => intro n; rfl
  | cons b l ih => intro n; cases n with
    | zero => rfl
    | succ n => exact congrArg (b :: ·) (ih n)
theorem delN_eq {α : Type} (l : List α) : ∀ n, delN l n = l.eraseIdx n := by
  induction l with
  | nil => intro n; rfl
  | cons b l ih => intro n; cases n with
    | zero => rfl
    | succ n => exact congrArg (b :: ·) (ih n)

section
variable {P : Program} {o : Oper} {rg : Reg} {hp : Hp} {nx wm : Nat} {G : Gh} {E : Env} {w : World}

theorem Bo.set {es : List MapEntry} {cl i : Nat} {e : MapEntry} {k v : Value} (h : Bo es cl) (he : es[i - 0]? = some e) : Bo (es.set i { key := k, val := v, born := e.born }) cl := by
  rw [Nat.sub_zero] at he
  have hb : (es.set i { key := k, val := v, born := e.born }).map (·.born) = es.map (·.born) := by
    apply List.ext_getElem?
    intro j
    rw [List.getElem?_map, List.getElem?_map, List.getElem?_set]
    split
    · rename_i hij
      subst hij
      rw [he]
      split
      · rfl
      · rename_i hlt; exact absurd (List.getElem?_eq_some_iff.1 he).1 hlt
    · rfl
  refine ⟨fun f hf => ?_, by rw [hb]; exact h.2⟩
  rcases List.mem_or_eq_of_mem_set hf with h1 | h1
  · exact h.1 f h1
  · rw [h1]; exact h.1 e (List.mem_of_getElem? he)
theorem Bo.push {es : List MapEntry} {cl : Nat} {k v : Value} (h : Bo es cl) : Bo (es ++ [{ key := k, val := v, born := cl }]) (cl + 1) := by
  refine ⟨fun f hf => ?_, ?_⟩
  · rcases List.mem_append.1 hf with h1 | h1
    · have := h.1 f h1; omega
    · simp at h1; rw [h1]; simp
  · rw [List.map_append, List.nodup_append]
    refine ⟨h.2, by simp, fun a ha b hb => ?_⟩
    obtain ⟨f, hf, rfl⟩ := List.mem_map.1 ha
    simp at hb
    have := h.1 f hf
    omega
theorem Bo.erase {es : List MapEntry} {cl : Nat} (h : Bo es cl) (i : Nat) : Bo (es.eraseIdx i) cl :=
  ⟨fun f hf => h.1 f (List.mem_of_mem_eraseIdx hf), h.2.sublist ((List.eraseIdx_sublist es i).map _)⟩
theorem MR.set {l m : List MapEntry} (h : MR E l m) {e f : MapEntry} (hk : VR E e.key f.key) (hv : VR E e.val f.val) (hb : e.born = f.born) : ∀ i, MR E (l.set i e) (m.set i f) := by
  induction l generalizing m with
  | nil => intro i; cases m with
    | nil => exact h
    | cons _ _ => exact h.elim
  | cons a l ih => intro i; cases m with
    | nil => exact h.elim
    | cons b m => cases i with
      | zero => exact ⟨hk, hv, hb, h.2.2.2⟩
      | succ i => exact ⟨h.1, h.2.1, h.2.2.1, ih h.2.2.2 i⟩
theorem MR.erase {l m : List MapEntry} (h : MR E l m) : ∀ i, MR E (l.eraseIdx i) (m.eraseIdx i) := by
  induction l generalizing m with
  | nil => intro i; cases m with
    | nil => exact h
    | cons _ _ => exact h.elim
  | cons a l ih => intro i; cases m with
    | nil => exact h.elim
    | cons b m => cases i with
      | zero => exact h.2.2.2
      | succ i => exact ⟨h.1, h.2.1, h.2.2.1, ih h.2.2.2 i⟩
theorem MR.push {l m : List MapEntry} (h : MR E l m) {e f : MapEntry} (hk : VR E e.key f.key) (hv : VR E e.val f.val) (hb : e.born = f.born) : MR E (l ++ [e]) (m ++ [f]) := by
  induction l generalizing m with
  | nil => cases m with
    | nil => exact ⟨hk, hv, hb, trivial⟩
    | cons _ _ => exact h.elim
  | cons a l ih => cases m with
    | nil => exact h.elim
    | cons b m => exact ⟨h.1, h.2.1, h.2.2.1, ih h.2.2.2⟩
theorem findE_get {k : Value} : ∀ {es : List MapEntry} {i j : Nat} {e : MapEntry}, findE k es j = some (i, e) → j ≤ i ∧ es[i - j]? = some e
  | [], i, j, e, h => by cases h
  | a :: es, i, j, e, h => by
    rw [findE_cons] at h
    split at h
    · injection h with h; injection h with h1 h2; subst h1; subst h2; simp
    · obtain ⟨h1, h2⟩ := findE_get h
      refine ⟨by omega, ?_⟩
      obtain ⟨d, rfl⟩ : ∃ d, i = j + 1 + d := ⟨i - (j + 1), by omega⟩
      rw [show j + 1 + d - j = d + 1 by omega]
      rw [show j + 1 + d - (j + 1) = d by omega] at h2
      exact h2
theorem findE_real {b : Bool} {ks : List Tk} {k : Value} : ∀ {es es' : List MapEntry} (j : Nat), MR E es es' → es.all (fun e => okKey b ks e.key) = true →
    (findE k es' j).map (·.1) = (findE k es j).map (·.1) ∧ (∀ e ∈ es', okKey b ks e.key = true) ∧ ∀ i e, findE k es j = some (i, e) → ∃ f, findE k es' j = some (i, f) ∧ VR E e.val f.val ∧ e.born = f.born
  | [], [], j, _, _ => ⟨rfl, (fun _ h => nomatch h), (fun _ _ h => nomatch h)⟩
  | [], _ :: _, _, h, _ => h.elim
  | _ :: _, [], _, h, _ => h.elim
  | a :: es, c :: es', j, h, hk => by
    simp only [List.all_cons, Bool.and_eq_true] at hk
    have hkey := okKey_same hk.1 h.1
    obtain ⟨h1, h2, h3⟩ := findE_real (k := k) (j + 1) h.2.2.2 hk.2
    rw [findE_cons, findE_cons, hkey]
    refine ⟨?_, fun e he => ?_, fun i e he => ?_⟩
    · split
      · rfl
      · exact h1
    · cases he with
      | head => rw [hkey]; exact hk.1
      | tail _ he => exact h2 e he
    · split
      · rename_i hq
        rw [if_pos hq] at he
        injection he with he; injection he with e1 e2; subst e1; subst e2
        exact ⟨c, rfl, h.2.1, h.2.2.1⟩
      · rename_i hq
        rw [if_neg hq] at he
        exact h3 i e he

theorem post_map (hr : Rel G E hp nx w) {n : Nat} {x : Nat × Nat × Nat} (e : E n = some x) {b : Bool} {ks : List Tk} {es es1 : List MapEntry} {cl cl1 : Nat} (g : g5 n hp = some (.mp b ks es cl)) {es' : Array MapEntry} (hb : w.heap[x.1]? = some (.map es' cl)) {es1' : Array MapEntry}
    (hm : MR E es1 es1'.toList) (hk : es1.all (fun e => okKey b ks e.key) = true) (hbo : Bo es1 cl1) : Post G E hp nx wm w E (s5 n (some (.mp b ks es1 cl1)) hp) nx (min wm n) { w with heap := w.heap.setIfInBounds x.1 (.map es1' cl1) } := by
  have hs := MapKept.heap_set (o' := .map es1' cl1) hb
  exact Post.change hr wm e g (fun _ _ _ _ _ _ => nofun) (fun _ => nofun) (by simp) (fun r h => hs.2 r h) ⟨es1', hs.1, hm, hk, hbo⟩

theorem does_makeMap (hn : nx < 32768) {t : TypeId} (ho : o.op = .makeMap t none) (b : Bool) (ks : List Tk) : Does P o rg hp nx wm (.map (some nx)) (s5 nx (some (.mp b ks [] 0)) hp) (nx + 1) wm := fun G E a w hr hg =>
  ⟨_, _, _, .inl (by simp only [execOp, ho, Instr.makeMap, Option.map_none, Sem.run_bind, Sem.run_pure, Result.andThen_ok, run_newObj]; rfl), .map (Env.add_self _ _ _),
    Post.alloc hr wm 0 (.map #[] 0) _ hn ⟨#[], heap_alloc_new w _, trivial, rfl, (fun _ h => nomatch h), List.nodup_nil⟩ fun _ _ _ _ _ _ => nofun⟩

theorem does_lookup {t : TypeId} {x ix : Operand} {ok : Bool} (ho : o.op = .lookup t x ix ok) {kt et : TypeId} (ht : P.underlying t = some (.map kt et)) {b : Bool} {ks : List Tk} (hkt : KeyT P kt b ks) {n : Nat} (hx : opv rg x = some (.map (some n)))
    {k : Value} (hk : opv rg ix = some k) (hkk : okKey b ks k = true) {es : List MapEntry} {cl : Nat} (hg5 : g5 n hp = some (.mp b ks es cl)) :
    (∀ i e, findE k es 0 = some (i, e) → Does P o rg hp nx wm (if ok then .tuple ⟨[e.val, .bool true]⟩ else e.val) hp nx wm) ∧
    (findE k es 0 = none → ∀ (i : TypeInfo) (z : Value), P.info? et = some i → i.zero = some z → cstB z = true → Does P o rg hp nx wm (if ok then .tuple ⟨[z, .bool false]⟩ else z) hp nx wm) := by
  refine ⟨fun i e hf => .pure fun G E a w hr hg => ?_, fun hf i z hi hz hzc => .pure fun G E a w hr hg => ?_⟩
  · obtain ⟨bm, base, ext, en, hxv⟩ := (opv_eval hg hx).map_inv
    obtain ⟨es', h1, h2, h3, hbo⟩ : BR G E w n bm base ext (.mp b ks es cl) := hr.blk n _ _ en hg5
    have hkv := okKey_same hkk (opv_eval hg hk)
    obtain ⟨_, h5, h6⟩ := findE_real (k := k) 0 h2 h3
    obtain ⟨f, hf', hv, _⟩ := h6 i e hf
    have hfk := run_findKey' (P := P) (w := w) hkt hkk es'.toList h5
    rw [hf'] at hfk
    have hck := run_checkKey' (P := P) (w := w) hkt hkk es'.isEmpty
    refine ⟨if ok then .tuple ⟨[f.val, .bool true]⟩ else f.val, ?_, ?_⟩
    · simp only [execOp, ho, Instr.lookup, Sem.run_bind, run_underlying ht, Result.andThen_ok, hxv, MapKept.run_getObj_map h1, hkv, hck, Sem.run_pure, hfk, Option.map_some]
      try (cases ok <;> rfl)
    · cases ok
      · exact hv
      · exact .tup (.cons hv (.cons (.bool _) .nil))
  · obtain ⟨bm, base, ext, en, hxv⟩ := (opv_eval hg hx).map_inv
    obtain ⟨es', h1, h2, h3, hbo⟩ : BR G E w n bm base ext (.mp b ks es cl) := hr.blk n _ _ en hg5
    have hkv := okKey_same hkk (opv_eval hg hk)
    obtain ⟨h4, h5, _⟩ := findE_real (k := k) 0 h2 h3
    have hfk := run_findKey' (P := P) (w := w) hkt hkk es'.toList h5
    have hnone : findE k es'.toList 0 = none := by
      rw [hf] at h4
      cases hq : findE k es'.toList 0 with
      | none => rfl
      | some p => rw [hq] at h4; cases h4
    rw [hnone] at hfk
    have hck := run_checkKey' (P := P) (w := w) hkt hkk es'.isEmpty
    have hzero : (zeroValue et).run P w = .ok z w := by simp [zeroValue, typeInfo, hi, hz]
    refine ⟨if ok then .tuple ⟨[z, .bool false]⟩ else z, ?_, ?_⟩
    · simp only [execOp, ho, Instr.lookup, Sem.run_bind, run_underlying ht, Result.andThen_ok, hxv, MapKept.run_getObj_map h1, hkv, hck, Sem.run_pure, hfk, Option.map_none, hzero]
      try (cases ok <;> rfl)
    · cases ok
      · exact VR.cst E hzc
      · exact .tup (.cons (VR.cst E hzc) (.cons (.bool _) .nil))

theorem modify_toList {α : Type} (a : Array α) (i : Nat) (f : α → α) : (a.modify i f).toList = a.toList.modify i f := by
  apply List.ext_getElem?
  intro j
  simp [List.getElem?_modify]
theorem modify_set {α : Type} (l : List α) (i : Nat) (f : α → α) {a : α} (h : l[i]? = some a) : l.modify i f = l.set i (f a) := by
  apply List.ext_getElem?
  intro j
  rw [List.getElem?_modify, List.getElem?_set]
  by_cases hij : i = j
  · subst hij
    obtain ⟨this, e⟩ := List.getElem?_eq_some_iff.1 h
    simp [this, e]
  · simp [hij]

theorem does_mapUpdate {t : TypeId} {x ix y : Operand} (ho : o.op = .mapUpdate t x ix y ∨ o.op = .insert t x ix y) {kt et : TypeId} (ht : P.underlying t = some (.map kt et)) {b : Bool} {ks : List Tk} (hkt : KeyT P kt b ks) {n : Nat} (hx : opv rg x = some (.map (some n)))
    {k v : Value} (hk : opv rg ix = some k) (hkk : okKey b ks k = true) (hy : opv rg y = some v) {es : List MapEntry} {cl : Nat} (hg5 : g5 n hp = some (.mp b ks es cl)) :
    (∀ i e, findE k es 0 = some (i, e) → Does P o rg hp nx wm (.tuple #[]) (s5 n (some (.mp b ks (setN { key := k, val := v, born := e.born } es i) cl)) hp) nx (min wm n)) ∧
    (findE k es 0 = none → Does P o rg hp nx wm (.tuple #[]) (s5 n (some (.mp b ks (app es [{ key := k, val := v, born := cl }]) (cl + 1))) hp) nx (min wm n)) := by
  have hexec : ∀ a : Act, execOp a.eval o = (do Instr.mapUpdate t (a.eval x) (a.eval ix) (a.eval y); pure .skip) := fun a => by
    rcases ho with ho | ho <;> simp [execOp, ho]
  refine ⟨fun i e hf G E a w hr hg => ?_, fun hf G E a w hr hg => ?_⟩
  · obtain ⟨bm, base, ext, en, hxv⟩ := (opv_eval hg hx).map_inv
    obtain ⟨es', h1, h2, h3, hbo⟩ : BR G E w n bm base ext (.mp b ks es cl) := hr.blk n _ _ en hg5
    have hkv := okKey_same hkk (opv_eval hg hk)
    obtain ⟨_, h5, h6⟩ := findE_real (k := k) 0 h2 h3
    obtain ⟨f, hf', hv, hbn⟩ := h6 i e hf
    have hfk := run_findKey' (P := P) (w := w) hkt hkk es'.toList h5
    rw [hf'] at hfk
    have hck := run_checkKey' (P := P) (w := w) hkt hkk false
    have hget := (findE_get hf').2
    rw [Nat.sub_zero] at hget
    have hget' : es'[i]? = some f := by simpa using hget
    have hfkey : f.key = k := by
      -- the key that was found is the key
      have : ∀ {l : List MapEntry} {j : Nat}, (∀ e ∈ l, okKey b ks e.key = true) → findE k l j = some (i, f) → f.key = k := by
        intro l
        induction l with
        | nil => intro j _ h; cases h
        | cons a l ih =>
          intro j hl h
          rw [findE_cons] at h
          split at h
          · rename_i hq
            injection h with h; injection h with _ h; subst h
            have h7 := okKey_split hkk
            have h8 := okKey_split (hl a (by simp))
            have h9 := (cellsEq_eq h7.1 h8.1).1 hq
            rw [← okKey_vOf hkt hkk, ← okKey_vOf hkt (hl a (by simp)), h9]
          · exact ih (fun e he => hl e (by simp [he])) h
      exact this h5 hf'
    have hst := run_stays (P := P) (w := w) hkk
    have hset : (es'.modify i fun e => { e with key := k, val := a.eval y }).toList = es'.toList.set i { key := k, val := a.eval y, born := f.born } := by
      rw [modify_toList, modify_set _ _ _ hget]
    refine ⟨E, undef, _, .inr ⟨?_, rfl⟩, .tup .nil, post_map (wm := wm) (es1' := es'.modify i fun e => { e with key := k, val := a.eval y }) (cl1 := cl) hr en hg5 h1 (es1 := setN { key := k, val := v, born := e.born } es i) ?_ ?_ ?_⟩
    · rw [hexec]
      simp only [Instr.mapUpdate, Sem.run_bind, run_underlying ht, Result.andThen_ok, hxv, MapKept.run_getObj_map h1, hkv, hck, hfk, Option.map_some, hget', Option.getD_some, hfkey, hst, MapKept.run_setObj_map _ h1, Sem.run_pure]
    · rw [hset, setN_eq]
      refine MR.set (e := { key := k, val := v, born := e.born }) (f := { key := k, val := a.eval y, born := f.born }) h2 ?_ (opv_eval hg hy) hbn i
      have := opv_eval hg hk
      rw [hkv] at this
      exact this
    · rw [setN_eq, List.all_eq_true]
      intro e' he'
      rcases List.mem_or_eq_of_mem_set he' with h | h
      · exact List.all_eq_true.1 h3 _ h
      · rw [h]; exact hkk
    · rw [setN_eq]; exact hbo.set (findE_get hf).2
  · obtain ⟨bm, base, ext, en, hxv⟩ := (opv_eval hg hx).map_inv
    obtain ⟨es', h1, h2, h3, hbo⟩ : BR G E w n bm base ext (.mp b ks es cl) := hr.blk n _ _ en hg5
    have hkv := okKey_same hkk (opv_eval hg hk)
    obtain ⟨h4, h5, _⟩ := findE_real (k := k) 0 h2 h3
    have hfk := run_findKey' (P := P) (w := w) hkt hkk es'.toList h5
    have hnone : findE k es'.toList 0 = none := by
      rw [hf] at h4
      cases hq : findE k es'.toList 0 with
      | none => rfl
      | some p => rw [hq] at h4; cases h4
    rw [hnone] at hfk
    have hck := run_checkKey' (P := P) (w := w) hkt hkk false
    refine ⟨E, undef, _, .inr ⟨?_, rfl⟩, .tup .nil, post_map (wm := wm) (es1' := es'.push { key := k, val := a.eval y, born := cl }) (cl1 := cl + 1) hr en hg5 h1 (es1 := app es [{ key := k, val := v, born := cl }]) ?_ ?_ ?_⟩
    · rw [hexec]
      simp only [Instr.mapUpdate, Sem.run_bind, run_underlying ht, Result.andThen_ok, hxv, MapKept.run_getObj_map h1, hkv, hck, hfk, Option.map_none, MapKept.run_setObj_map _ h1, Sem.run_pure]
    · rw [app_eq, Array.toList_push]
      refine MR.push (e := { key := k, val := v, born := cl }) (f := { key := k, val := a.eval y, born := cl }) h2 ?_ (opv_eval hg hy) rfl
      have := opv_eval hg hk
      rw [hkv] at this
      exact this
    · rw [app_eq, List.all_append, Bool.and_eq_true]
      exact ⟨h3, by simp [hkk]⟩
    · rw [app_eq]; exact hbo.push

theorem does_delete {x y : Operand} {t u : TypeId} (ho : o.op = .call ⟨.builtin .delete, ⟨[x, y]⟩, ⟨[t, u]⟩⟩) {kt et : TypeId} (ht : P.underlying t = some (.map kt et)) {b : Bool} {ks : List Tk} (hkt : KeyT P kt b ks) {n : Nat} (hx : opv rg x = some (.map (some n)))
    {k : Value} (hk : opv rg y = some k) (hkk : okKey b ks k = true) {es : List MapEntry} {cl : Nat} (hg5 : g5 n hp = some (.mp b ks es cl)) :
    (∀ i e, findE k es 0 = some (i, e) → Does P o rg hp nx wm (.tuple #[]) (s5 n (some (.mp b ks (delN es i) cl)) hp) nx (min wm n)) ∧
    (findE k es 0 = none → Does P o rg hp nx wm (.tuple #[]) hp nx wm) := by
  refine ⟨fun i e hf G E a w hr hg => ?_, fun hf => fun G E a w hr hg => ?_⟩
  · obtain ⟨cc, hrun⟩ := run_b2 (P := P) (w := w) ho a
    obtain ⟨bm, base, ext, en, hxv⟩ := (opv_eval hg hx).map_inv
    obtain ⟨es', h1, h2, h3, hbo⟩ : BR G E w n bm base ext (.mp b ks es cl) := hr.blk n _ _ en hg5
    have hkv := okKey_same hkk (opv_eval hg hk)
    obtain ⟨_, h5, h6⟩ := findE_real (k := k) 0 h2 h3
    obtain ⟨f, hf', hv, hbn⟩ := h6 i e hf
    have hfk := run_findKey' (P := P) (w := w) hkt hkk es'.toList h5
    rw [hf'] at hfk
    have hck := run_checkKey' (P := P) (w := w) hkt hkk es'.isEmpty
    refine ⟨E, .tuple #[], _, .inl ?_, .tup .nil, post_map (wm := wm) (es1' := es'.eraseIdxIfInBounds i) (cl1 := cl) hr en hg5 h1 (es1 := delN es i) ?_ ?_ ?_⟩
    · rw [hrun, hxv, hkv]
      simp [builtin, Builtin.delete_, run_underlying ht, MapKept.run_getObj_map h1, hck, hfk, MapKept.run_setObj_map _ h1]
    · rw [delN_eq]
      have : (es'.eraseIdxIfInBounds i).toList = es'.toList.eraseIdx i := by
        unfold Array.eraseIdxIfInBounds
        split
        · simp
        · rename_i h
          rw [List.eraseIdx_of_length_le (by simpa using h)]
      rw [this]
      exact h2.erase i
    · rw [delN_eq, List.all_eq_true]
      exact fun e he => List.all_eq_true.1 h3 e (List.mem_of_mem_eraseIdx he)
    · rw [delN_eq]; exact hbo.erase i
  · obtain ⟨cc, hrun⟩ := run_b2 (P := P) (w := w) ho a
    obtain ⟨bm, base, ext, en, hxv⟩ := (opv_eval hg hx).map_inv
    obtain ⟨es', h1, h2, h3, hbo⟩ : BR G E w n bm base ext (.mp b ks es cl) := hr.blk n _ _ en hg5
    have hkv := okKey_same hkk (opv_eval hg hk)
    obtain ⟨h4, h5, _⟩ := findE_real (k := k) 0 h2 h3
    have hfk := run_findKey' (P := P) (w := w) hkt hkk es'.toList h5
    have hnone : findE k es'.toList 0 = none := by
      rw [hf] at h4
      cases hq : findE k es'.toList 0 with
      | none => rfl
      | some p => rw [hq] at h4; cases h4
    rw [hnone] at hfk
    have hck := run_checkKey' (P := P) (w := w) hkt hkk es'.isEmpty
    refine ⟨E, .tuple #[], { w with heap := w.heap.setIfInBounds bm (.map es' cl) }, .inl ?_, .tup .nil, Post.congr hr wm ?_⟩
    · rw [hrun, hxv, hkv]
      simp [builtin, Builtin.delete_, run_underlying ht, MapKept.run_getObj_map h1, hck, hfk, MapKept.run_setObj_map _ h1]
    · apply Array.ext_getElem?
      intro j
      have hs := MapKept.heap_set (o' := .map es' cl) h1
      by_cases hj : j = bm
      · subst hj
        exact hs.1.trans h1.symm
      · exact hs.2 j hj
end
end
end Go.Proofs.YtdgllpcfmkjfhaaGreat
/- What the evaluator's iterators do, and that the machine does it: the machine picks any entry that is left. Over any program. -/
namespace Go.Proofs.YtdgllpcfmkjfhaaGreat
open Go.RowKit
noncomputable section

structure Oc where
  v : Value
  hp : Hp
  nx : Nat
  wm : Nat
def DoesL (P : Program) (o : Oper) (rg : Reg) (hp : Hp) (nx wm : Nat) (outs : List Oc) : Prop :=
  ∀ (G : Gh) (E : Env) (a : Act) (w : World), Rel G E hp nx w → RR E rg a.tmps → ∃ c ∈ outs, ∃ E' v' w', Gives P o a w v' w' ∧ VR E' c.v v' ∧ Post G E hp nx wm w E' c.hp c.nx c.wm w'

section
variable {P : Program} {o : Oper} {rg : Reg} {hp : Hp} {nx wm : Nat} {G : Gh} {E : Env} {w : World}

theorem Does.toL {v : Value} {hp' : Hp} {nx' wm' : Nat} (h : Does P o rg hp nx wm v hp' nx' wm') : DoesL P o rg hp nx wm [⟨v, hp', nx', wm'⟩] :=
  fun G E a w hr hg => ⟨⟨v, hp', nx', wm'⟩, List.mem_singleton.2 rfl, h G E a w hr hg⟩

theorem run_getObj {r : Nat} {ob : Obj} (h : w.heap[r]? = some ob) (hc : ∀ c e f, ob ≠ .cells c e f) : (getObj r).run P w = .ok ob w := by
  cases ob <;> first | exact absurd rfl (hc _ _ _) | simp [getObj, Sem.run, h]

theorem does_rangeStr (hn : nx < 32768) {t : TypeId} {x : Operand} (ho : o.op = .range t x) (ht : P.underlying t = some .string) {s : ByteArray} (hx : opv rg x = some (.string s)) :
    Does P o rg hp nx wm (.pointer (some ⟨nx, 0, none⟩)) (s5 nx (some (.sit s 0)) hp) (nx + 1) wm := fun G E a w hr hg =>
  ⟨_, _, _, .inl (by simp only [execOp, ho, Instr.range, Sem.run_bind, run_underlying ht, Result.andThen_ok, (opv_eval hg hx).str_inv, Sem.run_pure, run_newObj]; rfl), .ptr 0 (Env.add_self _ _ _),
    Post.alloc hr wm 0 (.stringIter s 0) (.sit s 0) hn ⟨heap_alloc_new w _, rfl⟩ fun _ _ _ _ _ _ => nofun⟩

theorem does_rangeMap (hn : nx < 32768) {t : TypeId} {x : Operand} (ho : o.op = .range t x) {kt et : TypeId} (ht : P.underlying t = some (.map kt et)) {m : Nat} (hx : opv rg x = some (.map (some m))) {b : Bool} {ks : List Tk} {es : List MapEntry} {cl : Nat} (hg5 : g5 m hp = some (.mp b ks es cl)) :
    Does P o rg hp nx wm (.pointer (some ⟨nx, 0, none⟩)) (s5 nx (some (.it m cl [])) hp) (nx + 1) wm := fun G E a w hr hg => by
  obtain ⟨bm, base, ext, en, hxv⟩ := (opv_eval hg hx).map_inv
  obtain ⟨es', h1, h2, h3, hbo⟩ : BR G E w m bm base ext (.mp b ks es cl) := hr.blk m _ _ en hg5
  refine ⟨_, _, _, .inl ?_, .ptr 0 (Env.add_self _ _ _), Post.alloc hr wm 0 (.mapIter (some bm) cl #[] cl) (.it m cl []) hn ⟨bm, base, ext, hr.ext_add _ _ _ en, heap_alloc_new w _, rfl⟩ fun _ _ _ _ _ _ => nofun⟩
  simp only [execOp, ho, Instr.range, Sem.run_bind, run_underlying ht, Result.andThen_ok, hxv, MapKept.run_getObj_map h1, Sem.run_pure, run_newObj]
  rfl

/-! ### Strings -/
theorem setIf_other (w : World) (r : Nat) (ob : Obj) : ∀ q, q ≠ r → ({ w with heap := w.heap.setIfInBounds r ob } : World).heap[q]? = w.heap[q]? := fun q h => by
  show (w.heap.setIfInBounds r ob)[q]? = _
  simp [Ne.symm h]
theorem setIf_self {w : World} {r : Nat} {ob0 : Obj} (ob : Obj) (h : w.heap[r]? = some ob0) : ({ w with heap := w.heap.setIfInBounds r ob } : World).heap[r]? = some ob := by
  have hlt : r < w.heap.size := (Array.getElem?_eq_some_iff.1 h).1
  show (w.heap.setIfInBounds r ob)[r]? = _
  simp [hlt]

theorem does_nextStr {x : Operand} (ho : o.op = .next x true) {n : Nat} (hx : opv rg x = some (.pointer (some ⟨n, 0, none⟩))) {s : ByteArray} {pos : Nat} (hg5 : g5 n hp = some (.sit s pos)) :
    (pos < s.size → Does P o rg hp nx wm (.tuple ⟨[.bool true, .int .i64 (.ofNat pos), .int .i32 (.ofNat (Utf8.decode s pos).1)]⟩) (s5 n (some (.sit s (pos + (Utf8.decode s pos).2))) hp) nx (min wm n)) ∧
    (¬ pos < s.size → Does P o rg hp nx wm (.tuple ⟨[.bool false]⟩) hp nx wm) := by
  refine ⟨fun hlt G E a w hr hg => ?_, fun hlt => .pure fun G E a w hr hg => ?_⟩
  · obtain ⟨b, base, ext, e, hxv⟩ := (opv_eval hg hx).ptr_inv
    obtain ⟨h1, h2⟩ : BR G E w n b base ext (.sit s pos) := hr.blk n _ _ e hg5
    subst h2
    refine ⟨E, _, { w with heap := w.heap.setIfInBounds b (.stringIter s (pos + (Utf8.decode s pos).2)) }, .inl ?_, .tup (.cons (.bool _) (.cons (.int _ _) (.cons (.int _ _) .nil))),
      Post.change hr wm e hg5 (fun _ _ _ _ _ _ => nofun) (fun _ => nofun) (by simp) (fun r h => setIf_other w b _ r h) ⟨setIf_self _ h1, rfl⟩⟩
    have hset : ∀ ob', (setObj b ob').run P w = .ok () { w with heap := w.heap.setIfInBounds b ob' } := fun ob' => by simp [setObj, Sem.run, h1]
    simp only [execOp, ho, hxv, Nat.zero_add, Instr.next, Sem.run_bind, run_getObj h1 (fun _ _ _ => nofun), Result.andThen_ok, hlt, if_true, hset, Sem.run_pure]
    rfl
  · obtain ⟨b, base, ext, e, hxv⟩ := (opv_eval hg hx).ptr_inv
    obtain ⟨h1, h2⟩ : BR G E w n b base ext (.sit s pos) := hr.blk n _ _ e hg5
    subst h2
    refine ⟨.tuple #[.bool false], ?_, .tup (.cons (.bool _) .nil)⟩
    simp only [execOp, ho, hxv, Nat.zero_add, Instr.next, Sem.run_bind, run_getObj h1 (fun _ _ _ => nofun), Result.andThen_ok, hlt, if_false, Sem.run_pure]

/-! ### Maps: an iterator whose record is known -/
def unseen (seen : List Nat) (es : List MapEntry) : List MapEntry := List.rec [] (fun e _ ih => Bool.rec (e :: ih) ih (seen.any fun b => Nat.beq b e.born)) es
theorem unseen_eq (seen : List Nat) (es : List MapEntry) : unseen seen es = es.filter fun e => !seen.contains e.born := by
  induction es with
  | nil => rfl
  | cons e es ih =>
    have hc : (seen.any fun b => Nat.beq b e.born) = seen.contains e.born := by
      rw [Bool.eq_iff_iff, List.any_eq_true, List.contains_iff_mem]
      exact ⟨fun ⟨x, hx, h⟩ => by rw [Nat.beq_eq] at h; exact h ▸ hx, fun h => ⟨_, h, Nat.beq_refl _⟩⟩
    show Bool.rec (motive := fun _ => List MapEntry) (e :: unseen seen es) (unseen seen es) (seen.any fun b => Nat.beq b e.born) = _
    rw [hc, List.filter_cons, ih]
    cases seen.contains e.born <;> rfl

theorem MR.mem {l m : List MapEntry} (h : MR E l m) {f : MapEntry} (hf : f ∈ m) : ∃ e ∈ l, VR E e.key f.key ∧ VR E e.val f.val ∧ e.born = f.born := by
  induction l generalizing m with
  | nil => cases m with
    | nil => cases hf
    | cons _ _ => exact h.elim
  | cons a l ih => cases m with
    | nil => exact h.elim
    | cons b m => cases hf with
      | head => exact ⟨a, by simp, h.1, h.2.1, h.2.2.1⟩
      | tail _ hf => obtain ⟨e, he, q⟩ := ih h.2.2.2 hf; exact ⟨e, by simp [he], q⟩
theorem MR.mem' {l m : List MapEntry} (h : MR E l m) {e : MapEntry} (he : e ∈ l) : ∃ f ∈ m, VR E e.key f.key ∧ VR E e.val f.val ∧ e.born = f.born := by
  induction l generalizing m with
  | nil => cases he
  | cons a l ih => cases m with
    | nil => exact h.elim
    | cons b m => cases he with
      | head => exact ⟨b, by simp, h.1, h.2.1, h.2.2.1⟩
      | tail _ he => obtain ⟨f, hf, q⟩ := ih h.2.2.2 he; exact ⟨f, by simp [hf], q⟩
theorem MR.borns {l m : List MapEntry} (h : MR E l m) : l.map (·.born) = m.map (·.born) := by
  induction l generalizing m with
  | nil => cases m with
    | nil => rfl
    | cons _ _ => exact h.elim
  | cons a l ih => cases m with
    | nil => exact h.elim
    | cons b m => rw [List.map_cons, List.map_cons, h.2.2.1, ih h.2.2.2]

theorem mem_leftOf {es : Array MapEntry} {seen : Array Nat} {e : MapEntry} : e ∈ (leftOf es seen).toList ↔ e ∈ es.toList ∧ e.born ∉ seen := by
  unfold leftOf
  simp

theorem setBlock_other (w : World) (r : Nat) (ob : Obj) : ∀ q, q ≠ r → (ChangeMaps.setBlock w r ob).heap[q]? = w.heap[q]? := fun q h => setIf_other w r ob q h
theorem setBlock_self {w : World} {r : Nat} {ob0 : Obj} (ob : Obj) (h : w.heap[r]? = some ob0) : (ChangeMaps.setBlock w r ob).heap[r]? = some ob := setIf_self ob h

theorem does_nextMap {x : Operand} (ho : o.op = .next x false) {n : Nat} (hx : opv rg x = some (.pointer (some ⟨n, 0, none⟩))) {m since : Nat} {seen : List Nat} (hg5 : g5 n hp = some (.it m since seen))
    {b : Bool} {ks : List Tk} {es : List MapEntry} (hgm : g5 m hp = some (.mp b ks es since)) :
    (unseen seen es = [] → Does P o rg hp nx wm (.tuple ⟨[.bool false]⟩) hp nx wm) ∧
    (unseen seen es ≠ [] → DoesL P o rg hp nx wm ((unseen seen es).map fun e => ⟨.tuple ⟨[.bool true, e.key, e.val]⟩, s5 n (some (.it m since (e.born :: seen))) hp, nx, min wm n⟩)) := by
  have key : ∀ (G : Gh) (E : Env) (a : Act) (w : World), Rel G E hp nx w → RR E rg a.tmps → ∃ br base ext bm base' ext' es', E n = some (br, base, ext) ∧ base = 0 ∧ E m = some (bm, base', ext') ∧ w.heap[br]? = some (.mapIter (some bm) since seen.reverse.toArray since) ∧
      w.heap[bm]? = some (.map es' since) ∧ MR E es es'.toList ∧ a.eval x = .pointer (some ⟨br, 0, none⟩) ∧
      (((leftOf es' seen.reverse.toArray).size = 0 ∧ (Instr.next (.pointer (some ⟨br, 0, none⟩)) false o.type).run P w = .ok (.tuple #[.bool false]) w) ∨
        ∃ f ∈ (leftOf es' seen.reverse.toArray).toList, ∃ w1 : World, (w1 = w ∨ w1 = w.drew) ∧ (Instr.next (.pointer (some ⟨br, 0, none⟩)) false o.type).run P w = .ok (.tuple #[.bool true, f.key, f.val]) (ChangeMaps.setBlock w1 br (.mapIter (some bm) since (seen.reverse.toArray.push f.born) since))) := by
    intro G E a w hr hg
    obtain ⟨br, base, ext, e, hxv⟩ := (opv_eval hg hx).ptr_inv
    obtain ⟨bm, base', ext', em, h1, h2⟩ : BR G E w n br base ext (.it m since seen) := hr.blk n _ _ e hg5
    subst h2
    obtain ⟨es', h3, h4, h5, hbo⟩ : BR G E w m bm base' ext' (.mp b ks es since) := hr.blk m _ _ em hgm
    refine ⟨br, 0, ext, bm, base', ext', es', e, rfl, em, h1, h3, h4, by simpa using hxv, ?_⟩
    exact run_next_at (P := P) w o.type br bm since since _ es' since h1 h3 (fun f hf => by
      obtain ⟨e, he, _, _, hb⟩ := h4.mem hf
      rw [← hb]; exact hbo.1 e he) (Nat.le_refl _)
  have hmem : ∀ {E : Env} {es' : Array MapEntry}, MR E es es'.toList → ∀ f, f ∈ (leftOf es' seen.reverse.toArray).toList → ∃ e ∈ unseen seen es, VR E e.key f.key ∧ VR E e.val f.val ∧ e.born = f.born := by
    intro E es' h4 f hf
    obtain ⟨h6, h7⟩ := mem_leftOf.1 hf
    obtain ⟨e, he, q1, q2, q3⟩ := h4.mem h6
    refine ⟨e, ?_, q1, q2, q3⟩
    rw [unseen_eq, List.mem_filter]
    refine ⟨he, ?_⟩
    simp at h7 ⊢
    rw [q3]; exact h7
  refine ⟨fun hnil => .pure fun G E a w hr hg => ?_, fun hne G E a w hr hg => ?_⟩
  · obtain ⟨br, base, ext, bm, base', ext', es', e, _, em, h1, h3, h4, hxv, hn | ⟨f, hf, _⟩⟩ := key G E a w hr hg
    · exact ⟨.tuple #[.bool false], by simp [execOp, ho, hxv, hn.2], .tup (.cons (.bool _) .nil)⟩
    · obtain ⟨e', he', _⟩ := hmem h4 f hf
      rw [hnil] at he'; cases he'
  · obtain ⟨br, base, ext, bm, base', ext', es', e, rfl, em, h1, h3, h4, hxv, hn | ⟨f, hf, w1, hw1, hrun⟩⟩ := key G E a w hr hg
    · exfalso
      obtain ⟨e', he'⟩ := List.exists_mem_of_ne_nil _ hne
      rw [unseen_eq, List.mem_filter] at he'
      obtain ⟨f, hf, _, _, hb⟩ := h4.mem' he'.1
      have : f ∈ (leftOf es' seen.reverse.toArray).toList := mem_leftOf.2 ⟨hf, by rw [← hb]; simpa using he'.2⟩
      have := List.length_pos_of_mem this
      rw [Array.length_toList] at this
      omega
    · obtain ⟨e', he', q1, q2, q3⟩ := hmem h4 f hf
      have hh : w1.heap = w.heap := by rcases hw1 with rfl | rfl <;> rfl
      have hio : Io w w1 := by rcases hw1 with rfl | rfl <;> exact ⟨rfl, rfl, rfl⟩
      have h1' : w1.heap[br]? = some (.mapIter (some bm) since seen.reverse.toArray since) := by rw [hh]; exact h1
      refine ⟨_, List.mem_map.2 ⟨e', he', rfl⟩, E, .tuple #[.bool true, f.key, f.val], _, .inl (by simp only [execOp, ho, hxv, Sem.run_bind, hrun, Result.andThen_ok, Sem.run_pure]; rfl), .tup (.cons (.bool _) (.cons q1 (.cons q2 .nil))), ?_⟩
      have hp1 := Post.congr hr wm (w' := w1) hh
      refine hp1.trans (Post.change hp1.rel wm e hg5 (fun _ _ _ _ _ _ => nofun) (fun _ => nofun) (by simp [ChangeMaps.setBlock]) (fun r h => setBlock_other w1 br _ r h) ⟨bm, base', ext', em, ?_, rfl⟩)
      rw [setBlock_self _ h1', q3]
      simp

def stamp (b : Nat) (es : List MapEntry) : Option MapEntry := List.rec none (fun e _ ih => Bool.rec ih (some e) (Nat.beq e.born b)) es
theorem stamp_mem {b : Nat} {e : MapEntry} : ∀ {es : List MapEntry}, stamp b es = some e → e ∈ es ∧ e.born = b
  | [], h => by cases h
  | a :: es, h => by
    change Bool.rec (motive := fun _ => Option MapEntry) (stamp b es) (some a) (Nat.beq a.born b) = some e at h
    cases hq : Nat.beq a.born b with
    | true =>
      rw [hq] at h; injection h with h; subst h
      exact ⟨by simp, Nat.eq_of_beq_eq_true hq⟩
    | false =>
      rw [hq] at h
      obtain ⟨h1, h2⟩ := stamp_mem h
      exact ⟨by simp [h1], h2⟩

theorem does_entry {x : Operand} (ho : o.op = .entry x) {n : Nat} (hx : opv rg x = some (.pointer (some ⟨n, 0, none⟩))) {m since b0 : Nat} {seen : List Nat} (hg5 : g5 n hp = some (.it m since (b0 :: seen)))
    {b : Bool} {ks : List Tk} {es : List MapEntry} (hgm : g5 m hp = some (.mp b ks es since)) {e : MapEntry} (he : stamp b0 es = some e) : Does P o rg hp nx wm (.tuple ⟨[e.key, e.val]⟩) hp nx wm :=
  .pure fun G E a w hr hg => by
    obtain ⟨br, base, ext, en, hxv⟩ := (opv_eval hg hx).ptr_inv
    obtain ⟨bm, base', ext', em, h1, h2⟩ : BR G E w n br base ext (.it m since (b0 :: seen)) := hr.blk n _ _ en hg5
    subst h2
    obtain ⟨es', h3, h4, h5, hbo⟩ : BR G E w m bm base' ext' (.mp b ks es since) := hr.blk m _ _ em hgm
    obtain ⟨hm, hb⟩ := stamp_mem he
    obtain ⟨f, hf, q1, q2, q3⟩ := h4.mem' hm
    have h1' : w.heap[br]? = some (.mapIter (some bm) since (seen.reverse.toArray.push f.born) since) := by rw [h1, ← q3, hb]; simp
    have hrun := run_entry_at (P := P) w br bm since seen.reverse.toArray es' since f h1' h3 hf (by rw [← h4.borns]; exact hbo.2)
    exact ⟨.tuple #[f.key, f.val], by simp [execOp, ho, hxv, hrun], .tup (.cons q1 (.cons q2 .nil))⟩
end
end
end Go.Proofs.YtdgllpcfmkjfhaaGreat
/- How code goes: what an evaluator's run of it says of the machine's. Over any program. -/
namespace Go.Proofs.YtdgllpcfmkjfhaaGreat
open Go.RowKit

section
variable {P : Program} {b : Frame} {a : Act} {k : List Item} {cs : List Frame} {w : World}
theorem stepR_scope {c : Code} : step P (lone (b.atR a (.code (.scope c) :: k)) cs w) = .next (lone (b.atR a (.code c :: .inScope c :: k)) cs w) :=
  step_lone_go (by simp [stepG, stepG.exec, Frame.atR])
theorem stepR_inScope {c : Code} : step P (lone (b.atR a (.inScope c :: k)) cs w) = .next (lone (b.atR a k) cs w) :=
  step_lone_go (by simp [stepG, stepG.exec, Frame.atR])
end
theorem wpIn_scope {F : Fence} {n : Nat} {P : Program} {Q : Exit → Act → World → Prop} {a : Act} {w : World} {c : Code} (h : c.wpIn F n P (Exit.noGoto Q) a w) : (Code.scope c).wpIn F n P Q a w := by
  intro b k cs hro hb hr
  have h0 : (lone (b.atR a (.code (.scope c) :: k)) cs w).fenced P F := fenced_calm hb hr rfl
  obtain ⟨e, a₁, w₁, hq, harr⟩ := h b (.inScope c :: k) cs hro hb hr
  cases e with
  | normal => exact ⟨.normal, a₁, w₁, hq, .head h0 stepR_scope (StepsIn.trans harr (.one (fenced_calm hb hr rfl) stepR_inScope))⟩
  | exit id =>
    have hx : exitTo id (.inScope c :: k) = exitTo id k := by simp [exitTo]
    exact ⟨.exit id, a₁, w₁, hq, fun k' hk => .head h0 stepR_scope (harr.1 k' (by rw [hx]; exact hk)),
      fun hr' hk => let ⟨k₁, h1, h2⟩ := harr.2 hr' (by rw [hx]; exact hk); ⟨k₁, h1, .head h0 stepR_scope h2⟩⟩
  | goto l => exact hq.elim
  | ret => exact ⟨_, a₁, w₁, hq, .of_steps (.one h0 stepR_scope) harr⟩
  | panic ch => exact ⟨_, a₁, w₁, hq, .of_steps (.one h0 stepR_scope) harr⟩
  | outgrown => exact ⟨_, a₁, w₁, hq, .of_steps (.one h0 stepR_scope) harr⟩

def Wd (ro : Option Nat) : Fence := { Fence.wide with round := ro }

structure St where
  rg : Reg
  hp : Hp
  nx : Nat
  wm : Nat

inductive Ex where
  | exit (id : Nat)
  | ret
def toX : Option Ex → Exit
  | none => .normal
  | some (.exit id) => .exit id
  | some .ret => .ret

def Prv (E : Env) (hp : Hp) (w : World) (pv : List (Nat × Obj)) : Prop := ∀ p ∈ pv, w.heap[p.1]? = some p.2 ∧ ∀ n x k, E n = some x → g5 n hp = some k → x.1 ≠ p.1
def Dfr (pv : List (Nat × Obj)) (ds : List Deferred) : Prop := ∃ Ds : List Nat, ds = Ds.map (fun D => { target := .collected D, args := #[] }) ∧ Ds.Nodup ∧ ∀ D ∈ Ds, (D, Obj.deferred (some [])) ∈ pv
def Rnd (ro : Option Nat) (pv : List (Nat × Obj)) : Prop := ∀ r, ro = some r → ∃ L, (r, Obj.loop L) ∈ pv

section
variable {G : Gh} {E E' : Env} {w w' : World} {hp hp' : Hp} {nx nx' wm wm' : Nat} {pv : List (Nat × Obj)}
theorem Prv.post (h : Prv E hp w pv) (ho : Post G E hp nx wm w E' hp' nx' wm' w') : Prv E' hp' w' pv := fun p hpv => by
  obtain ⟨h1, h2⟩ := h p hpv
  have hlt : p.1 < w.heap.size := (Array.getElem?_eq_some_iff.1 h1).1
  refine ⟨(ho.kept.blk p.1 hlt fun n x k e g _ => h2 n x k e g).trans h1, fun n x k e g => ?_⟩
  rcases Nat.lt_or_ge n nx with hn | hn
  · rw [ho.old n hn] at e
    cases hg : g5 n hp with
    | some k0 => exact h2 n x k0 e hg
    | none => rw [ho.dead n hn hg] at g; cases g
  · rcases ho.fresh n x hn e with hf | ⟨m, y, k0, _, em, gm, ey⟩
    · omega
    · rw [← ey]; exact h2 m y k0 em gm
theorem Rnd.mono {pv' : List (Nat × Obj)} {ro : Option Nat} (h : Rnd ro pv) (hs : ∀ p ∈ pv, p ∈ pv') : Rnd ro pv' := fun r hr => let ⟨L, m⟩ := h r hr; ⟨L, hs _ m⟩
end

structure Pvs (pv : List (Nat × Obj)) (w : World) (pv' : List (Nat × Obj)) : Prop where
  sub : ∀ p ∈ pv, p ∈ pv'
  new : ∀ p ∈ pv', p ∈ pv ∨ w.heap.size ≤ p.1
theorem Pvs.refl (pv : List (Nat × Obj)) (w : World) : Pvs pv w pv := ⟨fun _ h => h, fun _ h => .inl h⟩
theorem Pvs.trans {pv pv1 pv2 : List (Nat × Obj)} {w w1 : World} (h : Pvs pv w pv1) (h' : Pvs pv1 w1 pv2) (hs : w.heap.size ≤ w1.heap.size) : Pvs pv w pv2 :=
  ⟨fun p hp => h'.sub p (h.sub p hp), fun p hp => by
    rcases h'.new p hp with h1 | h1
    · exact h.new p h1
    · exact .inr (Nat.le_trans hs h1)⟩

structure Ok (G : Gh) (E : Env) (N : Nat) (s : St) (pv : List (Nat × Obj)) (a : Act) (w : World) : Prop where
  rel : Rel G E s.hp s.nx w
  rr : RR E s.rg a.tmps
  size : a.tmps.size = N
  prv : Prv E s.hp w pv
  dfr : Dfr pv a.defers

def SimO (P : Program) (o : Oper) (s : St) (outs : List Oc) : Prop :=
  ∀ (G : Gh) (E : Env) (pv : List (Nat × Obj)) (a : Act) (w : World) (ro : Option Nat) (n : Nat) (next : Act → World → Prop) (Q : Exit → Act → World → Prop),
    Rel G E s.hp s.nx w → RR E s.rg a.tmps → Prv E s.hp w pv → Rnd ro pv →
    (∀ c ∈ outs, ∀ E' v' w', VR E' c.v v' → Post G E s.hp s.nx s.wm w E' c.hp c.nx c.wm w' → next (a.put o.dst v') w') → o.wpIn (Wd ro) n P a w next Q

theorem DoesL.sim {P : Program} {o : Oper} {s : St} {outs : List Oc} (h : DoesL P o s.rg s.hp s.nx s.wm outs) : SimO P o s outs := by
  intro G E pv a w ro n next Q hr hg _ _ hn
  obtain ⟨c, hc, E', v', w', hgv, hv, hp⟩ := h G E a w hr hg
  have hk := hn c hc E' v' w' hv hp
  have hdef : ∀ cc, o.op ≠ .defer cc := by
    intro cc ho
    have hex : execOp a.eval o = (do pure (.defer (← resolve a.eval cc o.type))) := by simp [execOp, ho]
    rcases hgv with h1 | ⟨h1, _⟩ <;>
    · rw [hex] at h1
      simp only [Sem.run_bind] at h1
      cases hq : (resolve a.eval cc o.type).run P w with
      | ok d w2 => rw [hq] at h1; simp at h1
      | halt d w2 => rw [hq] at h1; simp at h1
  refine ⟨fun f _ => trivial, ?_⟩
  rw [Oper.semAt_eq _ _ _ hdef]
  rcases hgv with h1 | ⟨h1, rfl⟩
  · rw [h1]; exact hk
  · rw [h1]; exact hk
theorem Does.sim {P : Program} {o : Oper} {s : St} {v : Value} {hp' : Hp} {nx' wm' : Nat} (h : Does P o s.rg s.hp s.nx s.wm v hp' nx' wm') : SimO P o s [⟨v, hp', nx', wm'⟩] := h.toL.sim

noncomputable def setD (d : Option Nat) (v : Value) (rg : Reg) : Reg := match d with
  | none => rg
  | some t => s3 t (some v) rg
def dOk (N : Nat) (d : Option Nat) : Prop := ∀ t, d = some t → t < N ∧ t < 512
theorem RR.put {E : Env} {N : Nat} {rg : Reg} {a : Act} (h : RR E rg a.tmps) (hs : a.tmps.size = N) {d : Option Nat} (hd : dOk N d) {v v' : Value} (hv : VR E v v') : RR E (setD d v rg) (a.put d v').tmps ∧ (a.put d v').tmps.size = N ∧ (a.put d v').defers = a.defers := by
  cases d with
  | none => exact ⟨h, hs, rfl⟩
  | some t =>
    obtain ⟨h1, h2⟩ := hd t rfl
    exact ⟨h.set (by rw [hs]; exact h1) h2 hv, by simp [Act.put, hs], rfl⟩

section
variable {P : Program} {N : Nat} {ops : Array Oper} {l : List Oper} {s : St}
noncomputable def wantedV (ops : List Oper) (rg : Reg) (o : Oper) : Option Bool := match o.guard with
  | none => some true
  | some (j, w) => match ops[j]? with
    | none => none
    | some p => match p.dst with
      | none => none
      | some d => match g3 d rg with
        | some (.bool b) => some (b == w)
        | some (.tuple ⟨[]⟩) => some false
        | _ => none
theorem wanted_eq {E : Env} {rg : Reg} {a : Act} (hg : RR E rg a.tmps) {o : Oper} {b : Bool} (h : wantedV ops.toList rg o = some b) : Region.wanted o (yielded ops a.tmps) = b := by
  unfold wantedV at h
  unfold Region.wanted
  split at h
  · rename_i hgd; rw [hgd]; injection h
  · rename_i j wt hgd
    rw [hgd]
    split at h
    · cases h
    · rename_i p hp
      split at h
      · cases h
      · rename_i d hd
        have hp' : ops[j]? = some p := by simpa using hp
        have hy : ∀ v', a.tmps[d]? = some v' → yielded ops a.tmps j = match v' with | .bool b => some b | _ => none := fun v' hv => by
          unfold yielded
          rw [hp']
          simp only [Option.bind_some, hd, hv]
          cases v' <;> rfl
        split at h
        · rename_i b' hb
          injection h with h
          obtain ⟨v', h1, h2⟩ := hg d _ hb
          show (yielded ops a.tmps j == some wt) = b
          rw [hy _ h1, h2.bool_inv, ← h]
          cases b' <;> cases wt <;> rfl
        · rename_i hb
          injection h with h
          obtain ⟨v', h1, h2⟩ := hg d _ hb
          show (yielded ops a.tmps j == some wt) = b
          rw [hy _ h1, ← h]
          cases h2 with
          | tup hl => cases hl; rfl
        · cases h

end

def SimC (P : Program) (N : Nat) (c : Code) (s : St) (outs : List (Option Ex × St)) : Prop :=
  ∀ (G : Gh) (E : Env) (pv : List (Nat × Obj)) (a : Act) (w : World) (ro : Option Nat) (n : Nat) (Q : Exit → Act → World → Prop),
    Ok G E N s pv a w → Rnd ro pv →
    (∀ o ∈ outs, ∀ E' pv' a' w', Ok G E' N o.2 pv' a' w' → Post G E s.hp s.nx s.wm w E' o.2.hp o.2.nx o.2.wm w' → Pvs pv w pv' → Q (toX o.1) a' w') → c.wpIn (Wd ro) n P Q a w

section
variable {P : Program} {N : Nat} {s : St}
theorem SimC.skip : SimC P N .skip s [(none, s)] := fun G E pv a w ro n Q hok _ hQ => wpIn_skip (hQ (none, s) (by simp) E pv a w hok (Post.refl hok.rel _) (Pvs.refl _ _))
theorem SimC.label {l : Nat} : SimC P N (.label l) s [(none, s)] := fun G E pv a w ro n Q hok _ hQ => wpIn_label (hQ (none, s) (by simp) E pv a w hok (Post.refl hok.rel _) (Pvs.refl _ _))
theorem SimC.ret : SimC P N .ret s [(some .ret, s)] := fun G E pv a w ro n Q hok _ hQ => wpIn_ret (hQ (some .ret, s) (by simp) E pv a w hok (Post.refl hok.rel _) (Pvs.refl _ _))
theorem SimC.exit {id : Nat} : SimC P N (.exit id) s [(some (.exit id), s)] := fun G E pv a w ro n Q hok _ hQ => wpIn_exit (hQ (some (.exit id), s) (by simp) E pv a w hok (Post.refl hok.rel _) (Pvs.refl _ _))
theorem wpIn_loop_iter {F : Fence} {n : Nat} {c : Code} {Q : Exit → Act → World → Prop} (D : Nat → Act → World → Prop) (hD : ∀ k a w, D k a w → c.wpIn F n P (Exit.then (fun a' w' => ∃ i, i < k ∧ D i a' w') Q) a w) {k : Nat} {a : Act} {w : World} (h : D k a w) : (Code.loop c).wpIn F n P Q a w := by
  intro b K cs hro hb hr
  have key : ∀ k a w, D k a w → ∃ e a' w', Q e a' w' ∧ ArrivesIn (Machine.fenced P F) P (lone (b.atR a (.code c :: .inLoop c :: K)) cs w) b K cs e a' w' := by
    intro k
    induction k using Nat.strongRecOn with
    | _ k ih =>
      intro a w hk
      obtain ⟨e, a₁, w₁, hq, harr⟩ := hD k a w hk b (.inLoop c :: K) cs hro hb hr
      cases e with
      | normal =>
        obtain ⟨i, hi, hdi⟩ := hq
        obtain ⟨e₂, a₂, w₂, hq₂, harr₂⟩ := ih i (by omega) a₁ w₁ hdi
        exact ⟨e₂, a₂, w₂, hq₂, .of_steps (StepsIn.trans harr (.one (fenced_calm hb hr rfl) stepR_inLoop)) harr₂⟩
      | exit id => exact ⟨_, a₁, w₁, hq, .pass (x := .inLoop c) rfl (fun _ _ => .inl (by simp)) harr⟩
      | goto l => exact ⟨_, a₁, w₁, hq, .pass (x := .inLoop c) rfl (fun _ _ => .inl (by simp)) harr⟩
      | ret => exact ⟨_, a₁, w₁, hq, .pass (x := .inLoop c) rfl (fun _ _ => .inl (by simp)) harr⟩
      | panic ch => exact ⟨_, a₁, w₁, hq, .pass (x := .inLoop c) rfl (fun _ _ => .inl (by simp)) harr⟩
      | outgrown => exact ⟨_, a₁, w₁, hq, .pass (x := .inLoop c) rfl (fun _ _ => .inl (by simp)) harr⟩
  obtain ⟨e, a', w', hq, harr⟩ := key k a w h
  exact ⟨e, a', w', hq, .of_steps (.one (fenced_calm hb hr rfl) stepR_loop) harr⟩

end
end Go.Proofs.YtdgllpcfmkjfhaaGreat
/- How calls go: functions, rounds of a range over a function, the statement itself. Over any program. -/
namespace Go.Proofs.YtdgllpcfmkjfhaaGreat
open Go.RowKit
noncomputable section
section
variable {P : Program} {G : Gh} {E E' : Env} {w w' w'' : World} {hp hp' : Hp} {nx nx' wm wm' : Nat}

theorem Rel.priv (hr : Rel G E hp nx w) (hs : w'.heap.size = w.heap.size) (hw : ∀ r, (∃ n x k, E n = some x ∧ g5 n hp = some k ∧ x.1 = r) → w'.heap[r]? = w.heap[r]?) : Rel G E hp nx w' :=
  ⟨hr.bound, fun n x e => by rw [hs]; exact hr.lt n x e, fun n x k e g => (hr.blk n x k e g).keep (Ext.refl _) (hw _ ⟨n, x, k, e, g, rfl⟩) fun m rw ks es cl st bm u v hk em => by
    subst hk
    exact hw bm ⟨m, _, _, em, hr.own _ _ _ _ _ _ _ g, rfl⟩, hr.inj, hr.own, hr.top⟩
theorem Post.priv (h : Post G E hp nx wm w E' hp' nx' wm' w') (hs : w''.heap.size = w'.heap.size) (hw : ∀ r, r < w.heap.size ∨ (∃ n x k, E' n = some x ∧ g5 n hp' = some k ∧ x.1 = r) → w''.heap[r]? = w'.heap[r]?) (hio : Io w' w'' := by first | exact ⟨rfl, rfl, rfl⟩ | assumption) : Post G E hp nx wm w E' hp' nx' wm' w'' :=
  ⟨h.old, h.rel.priv hs fun r hr => hw r (.inr hr), h.nxle, h.wmle, ⟨by rw [hs]; exact h.kept.size, fun r hr hx => (hw r (.inl hr)).trans (h.kept.blk r hr hx), h.kept.io.trans hio⟩, h.log, h.dead, h.fresh⟩

theorem Post.wake (hr : Rel G E hp nx w) {l : Nat} {x : Nat × Nat × Nat} {k0 k : Blk} (e : E l = some x) (g : g5 l hp = some k0) (hk0 : ∀ i, k0 ≠ .fmp i) (hkf : ∀ m rw ks es cl st, k ≠ .fit m rw ks es cl st)
    {wm0 : Nat} (h : Post G E (s5 l none hp) nx wm0 w E' hp' nx' wm' w') (hd : g5 l hp' = none) (hx : ∀ n y q, E' n = some y → g5 n hp' = some q → y.1 ≠ x.1)
    (hs : w''.heap.size = w'.heap.size) (hw : ∀ r, r ≠ x.1 → w''.heap[r]? = w'.heap[r]?) (hb : BR G E' w'' l x.1 x.2.1 x.2.2 k) (hio : Io w' w'' := by first | exact ⟨rfl, rfl, rfl⟩ | assumption) : Post G E hp nx wm0 w E' (s5 l (some k) hp') nx' (min wm' l) w'' := by
  have hl5 := g5_lt g
  have hlx := hr.lt_nx g
  have hnx := h.nxle
  have get : ∀ m q, g5 m (s5 l (some k) hp') = some q → (m = l ∧ q = k) ∨ (m ≠ l ∧ g5 m hp' = some q) := fun m q h => by
    have hm5 := g5_lt h
    rw [g5_s5 _ _ _ _ hm5 hl5] at h
    by_cases h' : m = l
    · rw [if_pos h'] at h; injection h with h; exact .inl ⟨h', h.symm⟩
    · rw [if_neg h'] at h; exact .inr ⟨h', h⟩
  have e' : E' l = some x := by rw [h.old l hlx]; exact e
  have r1 := h.rel
  have live : ∀ n, n ≠ l → ∀ q, g5 n hp = some q → g5 n (s5 l none hp) = some q := fun n hn q hq => by rw [g5_s5 _ _ _ _ (g5_lt hq) hl5, if_neg hn]; exact hq
  have live' : ∀ n q, g5 n (s5 l none hp) = some q → n ≠ l ∧ g5 n hp = some q := fun n q hq => by
    rw [g5_s5 _ _ _ _ (g5_lt hq) hl5] at hq
    split at hq
    · cases hq
    · rename_i hn; exact ⟨hn, hq⟩
  refine ⟨h.old, ⟨r1.bound, fun n y hy => by rw [hs]; exact r1.lt n y hy, fun n y q hy gq => ?_, fun n m y z q q' hy hz gq gq' hyz => ?_, fun n m rw ks es cl st gq => ?_, fun n hn => ?_⟩, h.nxle, Nat.le_trans (Nat.min_le_left _ _) h.wmle,
    ⟨by rw [hs]; exact h.kept.size, fun r hr0 hq => ?_, h.kept.io.trans hio⟩, fun n hn hn' => ?_, fun n hn gq => ?_, fun n y hn hy => ?_⟩
  · rcases get n q gq with ⟨rfl, rfl⟩ | ⟨hne, gq⟩
    · rw [e'] at hy; injection hy with hy; subst hy; exact hb
    · refine (r1.blk n y q hy gq).keep (Ext.refl _) (hw _ (hx n y q hy gq)) fun m rw ks es cl st bm u v hq em => ?_
      subst hq
      exact hw _ (hx m _ _ em (r1.own _ _ _ _ _ _ _ gq))
  · rcases get n q gq with ⟨rfl, _⟩ | ⟨h1, gqq⟩
    · rcases get m q' gq' with ⟨rfl, _⟩ | ⟨h2, gq'⟩
      · rfl
      · rw [e'] at hy; injection hy with hy; subst hy
        exact absurd hyz.symm (hx m z q' hz gq')
    · rcases get m q' gq' with ⟨rfl, _⟩ | ⟨h2, gq'⟩
      · rw [e'] at hz; injection hz with hz; subst hz
        exact absurd hyz (hx n y q hy gqq)
      · exact r1.inj n m y z q q' hy hz gqq gq' hyz
  · rcases get n _ gq with ⟨_, h1⟩ | ⟨h1, gq⟩
    · exact absurd h1.symm (hkf _ _ _ _ _ _)
    · have key := r1.own _ _ _ _ _ _ _ gq
      have hml : m ≠ l := by intro hml; subst hml; rw [hd] at key; cases key
      rw [g5_s5 _ _ _ _ (g5_lt key) hl5, if_neg hml]; exact key
  · rcases Nat.lt_or_ge n 32768 with h5 | h5
    · rw [g5_s5 _ _ _ _ h5 hl5, if_neg (by omega)]; exact r1.top n hn
    · exact g5_far _ _ (by omega)
  · have hrx : r ≠ x.1 := Ne.symm (hq l x k0 e g (Nat.min_le_right _ _))
    refine (hw r hrx).trans (h.kept.blk r hr0 fun n y q hy gq hn => ?_)
    obtain ⟨h1, h2⟩ := live' n q gq
    exact hq n y q hy h2 (by omega)
  · have h1 := h.log n (by omega) hn'
    rcases Nat.lt_or_ge n 32768 with h5 | h5
    · rw [g5_s5 _ _ _ _ h5 hl5, if_neg (by omega), h1, g5_s5 _ _ _ _ h5 hl5, if_neg (by omega)]
    · rw [g5_far _ _ (by omega), g5_far _ _ (by omega)]
  · have hne : n ≠ l := by intro hne; subst hne; rw [g] at gq; cases gq
    rcases Nat.lt_or_ge n 32768 with h5 | h5
    · rw [g5_s5 _ _ _ _ h5 hl5, if_neg hne]
      refine h.dead n hn ?_
      rw [g5_s5 _ _ _ _ h5 hl5, if_neg hne]; exact gq
    · exact g5_far _ _ (by omega)
  · rcases h.fresh n y hn hy with hf | ⟨m, z, q, hm, em, gm, ez⟩
    · exact .inl hf
    · obtain ⟨h1, h2⟩ := live' m q gm
      exact .inr ⟨m, z, q, by omega, em, h2, ez⟩
end

/-! ### Calls -/
def SimF (P : Program) (fn : Fn) (args : List Value) (hp : Hp) (nx wm : Nat) (c : Oc) : Prop := match fn with
  | .func f => (∃ fn, P.funcs[f]? = some fn ∧ fn.body.isSome = true ∧ fn.name ≠ "runtime.NumGoroutine") ∧
      ∀ (G : Gh) (E : Env) (w : World) (args' : List Value) (ro : Option Nat) (n : Nat) (R : Ending → World → Prop), Rel G E hp nx w → LR E args args' →
        (∀ E' v' w', VR E' c.v v' → Post G E hp nx wm w E' c.hp c.nx c.wm w' → R (.returned v') w') → CallsIn (Wd ro) n P f ⟨args'⟩ w R
  | .yield l => ∀ (G : Gh) (E : Env) (w : World) (args' : List Value) (ro : Option Nat) (n : Nat) (R : Ending → World → Prop) (lr x y : Nat), Rel G E hp nx w → LR E args args' → E l = some (lr, x, y) →
        (∀ E' v' w', VR E' c.v v' → Post G E hp nx wm w E' c.hp c.nx c.wm w' → R (.returned v') w') →
        ∃ f tm asg body, (Instr.yield lr ⟨args'⟩).run P w = .ok (.round lr f tm asg body) w ∧ RoundIn (Wd ro) n P lr f tm asg body w R
  | _ => False

section
variable {P : Program} {N : Nat} {s : St}
theorem SimF.sim {o : Oper} {c : Call} {x : Operand} (ho : o.op = .call c) (hc : c.callee = .value x) {fn : Fn} {first cap : List Value} (hx : opv s.rg x = some (.func fn ⟨first⟩ ⟨cap⟩)) {args : List Value}
    (ha : ∀ (E : Env) (a : Act), RR E s.rg a.tmps → LR E args (c.args.toList.map a.eval)) {oc : Oc} (h : SimF P fn (first ++ (args ++ cap)) s.hp s.nx s.wm oc) : SimO P o s [oc] := by
  intro G E pv a w ro n next Q hr hg _ _ hn
  have hdef : ∀ cc, o.op ≠ .defer cc := fun cc h => by rw [ho] at h; cases h
  refine ⟨fun f _ => trivial, ?_⟩
  rw [Oper.semAt_eq _ _ _ hdef]
  have hxv := opv_eval hg hx
  have hal := ha E a hg
  have hexec : ∀ (f' : Fn) (fs cs : List Value), a.eval x = .func f' ⟨fs⟩ ⟨cs⟩ → execOp a.eval o = invoke (.fn f' ⟨cs⟩) (⟨fs⟩ ++ c.args.map a.eval) := by
    intro f' fs cs hv
    simp [execOp, ho, resolve, hc, hv, Deferred.ofValue]
  revert hxv
  generalize hq : a.eval x = q
  intro hxv
  cases hxv with
  | func f h1 h2 =>
    rename_i b d
    obtain ⟨⟨fn0, hf1, hf2, hf3⟩, hcall⟩ := h
    have hargs : (⟨b⟩ ++ c.args.map a.eval : Array Value) ++ ⟨d⟩ = ⟨b ++ (c.args.toList.map a.eval ++ d)⟩ := by apply Array.ext'; simp
    have hrun : (execOp a.eval o).run P w = .ok (.enter f ⟨b ++ (c.args.toList.map a.eval ++ d)⟩) w := by
      rw [hexec _ _ _ hq]
      simp only [invoke, callFunc, Sem.run_bind, run_program, Result.andThen_ok, hf1, hargs]
      have hn : (fn0.name == "runtime.NumGoroutine") = false := by simpa using hf3
      have hb : fn0.body.isNone = false := by cases hfb : fn0.body <;> simp_all
      simp [hn, hb]
    rw [hrun]
    refine ⟨(fun hh => nomatch hh), ?_⟩
    exact hcall G E w _ ro (n - 1) _ hr (h1.append (hal.append h2)) fun E' v' w' hv hp => hn oc (by simp) E' v' w' hv hp
  | yld h1 =>
    rename_i l br base ext
    obtain ⟨f, tm, asg, body, hy, hround⟩ := h G E w (c.args.toList.map a.eval) ro (n - 1) (fun
      | .returned v, w'' => next (a.put o.dst v) w''
      | .panicked chain, w'' => Q (.panic chain) a w''
      | .outgrown, _ => LetsOut Q) br base ext hr (by simpa using hal) h1 fun E' v' w' hv hp => hn oc (by simp) E' v' w' hv hp
    have hrun : (execOp a.eval o).run P w = .ok (.round br f tm asg body) w := by
      rw [hexec _ _ _ hq]
      have hargs : (#[] ++ c.args.map a.eval : Array Value) = ⟨c.args.toList.map a.eval⟩ := by apply Array.ext'; simp
      simp only [invoke]
      rw [show (⟨[]⟩ : Array Value) = #[] from rfl, hargs]
      exact hy
    rw [hrun]
    exact ⟨(fun hh => nomatch hh), hround⟩

/-! ### The results of a function -/
def loadV (P : Program) (hp : Hp) (t : TypeId) (n k : Nat) : Option Value := match P.underlying t, P.info? t, g5 n hp with
  | some d, some i, some (.row cs) => if d.isRow = true then (if k + i.size ≤ cs.length then some (.agg ⟨takeN (dropN cs k) i.size⟩) else none) else nth cs k
  | _, _, _ => none
theorem loadV_run {G : Gh} {E : Env} {w : World} {hp : Hp} {nx : Nat} (hr : Rel G E hp nx w) {t : TypeId} {n k : Nat} {v : Value} (h : loadV P hp t n k = some v) {b base ext : Nat} (e : E n = some (b, base, ext)) :
    ∃ v', (loadVar t ⟨b, base + k, none⟩).run P w = .ok v' w ∧ VR E v v' := by
  unfold loadV at h
  split at h
  · rename_i d i cs hd hi hg
    have hb := hr.blk n _ _ e hg
    split at h
    · rename_i hrow
      split at h
      · rename_i hle
        injection h with h; subst h
        obtain ⟨us, h1, h2, h3⟩ := hb.range k i.size hle
        obtain ⟨_, _, _, _, _, hone, _⟩ := hb
        exact ⟨_, run_loadN hd hrow hi h1 h2, .agg (by rw [takeN_eq, dropN_eq]; exact h3) (by rw [takeN_eq, dropN_eq]; exact LR.all_mid hone _ _)⟩
      · cases h
    · rename_i hrow
      rw [nth_eq] at h
      obtain ⟨v', hc, hv⟩ := hb.cell h
      exact ⟨v', run_load1 hd (by simpa using hrow) hc, hv⟩
  · cases h
def resV (P : Program) (rg : Reg) (hp : Hp) : List ResultVar → Option (List Value)
  | [] => some []
  | .tmp t :: l => match g3 t rg, resV P rg hp l with
    | some v, some vs => some (v :: vs)
    | _, _ => none
  | .cell a t :: l => match g3 a rg with
    | some (.pointer (some ⟨n, k, none⟩)) => match loadV P hp t n k, resV P rg hp l with
      | some v, some vs => some (v :: vs)
      | _, _ => none
    | _ => none
def resOne (l : List Value) : Value := match l with
  | [v] => v
  | l => .tuple ⟨l⟩
def resM (tm : Array Value) (r : ResultVar) : Sem Value := match r with
  | .tmp t => pure (tm.getD t undef)
  | .cell a t => do loadVar t (← asAddr (tm.getD a undef))
theorem results_eq (fn : Func) (tm : Array Value) : results fn tm = (do let vs ← fn.results.mapM (resM tm); pure (if h : vs.size = 1 then vs[0] else .tuple vs)) := rfl
theorem resV_run {G : Gh} {E : Env} {w : World} {hp : Hp} {nx : Nat} (hr : Rel G E hp nx w) {rg : Reg} {tm : Array Value} (hg : RR E rg tm) : ∀ {l : List ResultVar} {vs : List Value}, resV P rg hp l = some vs →
    ∃ vs', (l.mapM (resM tm) : Sem (List Value)).run P w = .ok vs' w ∧ LR E vs vs'
  | [], vs, h => by injection h with h; subst h; exact ⟨[], by simp, .nil⟩
  | .tmp t :: l, vs, h => by
    simp only [resV] at h
    split at h
    · rename_i v us hv hu
      injection h with h; subst h
      obtain ⟨us', h1, h2⟩ := resV_run hr hg hu
      obtain ⟨v', h3, h4⟩ := hg t v hv
      refine ⟨v' :: us', ?_, .cons h4 h2⟩
      have hget : tm.getD t undef = v' := by simp [Array.getD_eq_getD_getElem?, h3]
      rw [List.mapM_cons]
      simp only [resM, Sem.run_bind, hget, Sem.run_pure, Result.andThen_ok]
      rw [h1]
      simp
    · cases h
  | .cell a t :: l, vs, h => by
    simp only [resV] at h
    split at h
    · rename_i n k ha
      split at h
      · rename_i v us hv hu
        injection h with h; subst h
        obtain ⟨us', h1, h2⟩ := resV_run hr hg hu
        obtain ⟨p, h3, h4⟩ := hg a _ ha
        obtain ⟨b, base, ext, e, rfl⟩ := h4.ptr_inv
        obtain ⟨v', h5, h6⟩ := loadV_run hr hv e
        refine ⟨v' :: us', ?_, .cons h6 h2⟩
        rw [List.mapM_cons]
        have hget : tm.getD a undef = .pointer (some ⟨b, base + k, none⟩) := by simp [Array.getD_eq_getD_getElem?, h3]
        simp only [resM, Sem.run_bind, hget, asAddr, Sem.run_pure, Result.andThen_ok, h5]
        rw [h1]
        simp
      · cases h
    · cases h
theorem results_run {G : Gh} {E : Env} {w : World} {hp : Hp} {nx : Nat} (hr : Rel G E hp nx w) {rg : Reg} {tm : Array Value} (hg : RR E rg tm) {fn : Func} {vs : List Value} (h : resV P rg hp fn.results.toList = some vs) :
    ∃ v', (results fn tm).run P w = .ok v' w ∧ VR E (resOne vs) v' := by
  obtain ⟨vs', h1, h2⟩ := resV_run hr hg h
  rw [results_eq, Array.mapM_eq_mapM_toList]
  simp only [Sem.run_bind, Sem.run_map, h1, Result.andThen_ok, Sem.run_pure]
  refine ⟨_, rfl, ?_⟩
  have hl := h2.length
  match vs, vs', h2, hl with
  | [v], [v'], .cons h _, _ => exact h
  | [], [], h2, _ => exact .tup h2
  | a :: b :: l, a' :: b' :: l', h2, _ =>
    have : ¬ ((a' :: b' :: l').toArray.size = 1) := by simp
    rw [dif_neg this]
    exact .tup h2
end
end
end Go.Proofs.YtdgllpcfmkjfhaaGreat
/- How a function's body, a round and a range over a function give calls. Over any program. -/
namespace Go.Proofs.YtdgllpcfmkjfhaaGreat
open Go.RowKit
noncomputable section
section
variable {P : Program}

theorem calls_wd {ro : Option Nat} {n : Nat} {f : FuncId} {args : Array Value} {w : World} {R : Ending → World → Prop} (h : CallsIn (Wd none) n P f args w R) : CallsIn (Wd ro) n P f args w R := h

def regOf (l : List Value) : Nat → Reg → Reg := List.rec (fun _ r => r) (fun v _ ih n r => ih (Nat.succ n) (s3 n (some v) r)) l
theorem regOf_cons (v : Value) (l : List Value) (n : Nat) (r : Reg) : regOf (v :: l) n r = regOf l (n + 1) (s3 n (some v) r) := rfl
theorem g3_regOf : ∀ (l : List Value) (n : Nat) (r : Reg) (t : Nat), n + l.length ≤ 512 → t < 512 → g3 t (regOf l n r) = if n ≤ t ∧ t < n + l.length then l[t - n]? else g3 t r
  | [], n, r, t, _, _ => by
    rw [if_neg (by simp)]; rfl
  | v :: l, n, r, t, h, ht => by
    simp only [List.length_cons] at h ⊢
    rw [regOf_cons, g3_regOf l (n + 1) _ t (by omega) ht]
    by_cases h1 : n + 1 ≤ t ∧ t < n + 1 + l.length
    · rw [if_pos h1, if_pos (by omega), show t - n = (t - (n + 1)) + 1 by omega, List.getElem?_cons_succ]
    · rw [if_neg h1, g3_s3 _ _ _ _ ht (by omega)]
      by_cases h2 : t = n
      · subst h2
        rw [if_pos rfl, if_pos (by omega)]
        simp
      · rw [if_neg h2, if_neg (by omega)]
theorem regOf_rr {E : Env} {args args' : List Value} {N : Nat} (h : LR E args args') (h5 : args.length ≤ 512) : RR E (regOf args 0 (t3 Value)) ((⟨args'⟩ : Array Value) ++ Array.replicate (N - (⟨args'⟩ : Array Value).size) undef) := by
  intro t v hv
  by_cases ht : t < 512
  · rw [g3_regOf _ _ _ _ (by omega) ht] at hv
    split at hv
    · rename_i hc
      obtain ⟨v', h1, h2⟩ := h.get _ v hv
      refine ⟨v', ?_, h2⟩
      have hlt : t < args'.length := by rw [← h.length]; omega
      rw [Array.getElem?_append_left (by simpa using hlt)]
      simpa using h1
    · rw [g3_t3] at hv; cases hv
  · rw [g3_far _ _ ht] at hv; cases hv

theorem leaves_marks {fn : Func} {tm : Array Value} {R : Ending → World → Prop} {n : Nat} : ∀ (Ds : List Nat) (w : World), Ds.Nodup → (∀ D ∈ Ds, w.heap[D]? = some (.deferred (some []))) →
    (∀ w'' : World, w''.heap.size = w.heap.size → (∀ r, r ∉ Ds → w''.heap[r]? = w.heap[r]?) → Io w w'' → ∃ v, (results fn tm).run P w'' = .ok v w'' ∧ R (.returned v) w'') →
    LeavesInM (Wd none) n P fn tm R (Ds.map fun D => { target := .collected D, args := #[] }) .returning w
  | [], w, _, _, h => h w rfl (fun _ _ => rfl) (Io.refl w)
  | D :: Ds, w, hnd, hD, h => by
    rw [List.nodup_cons] at hnd
    have hh := hD D (by simp)
    refine ⟨nofun, .inl ⟨D, { w with heap := w.heap.setIfInBounds D (.deferred none) }, rfl, ?_, ?_⟩⟩
    · simp [Instr.takeDeferred, run_getObj hh (fun _ _ _ => nofun), setObj, Sem.run, hh]
    · refine leaves_marks Ds _ hnd.2 (fun D' hD' => ?_) fun w'' hs hw hio => h w'' (by rw [hs]; simp) (fun r hr => ?_) hio
      · rw [setIf_other w D _ D' (by intro e; subst e; exact hnd.1 hD')]
        exact hD D' (by simp [hD'])
      · simp only [List.mem_cons, not_or] at hr
        rw [hw r hr.2, setIf_other w D _ r hr.1]

theorem SimF.func {f : FuncId} {fn : Func} (hf : P.funcs[f]? = some fn) {c : Code} (hb : fn.body = some c) (hname : fn.name ≠ "runtime.NumGoroutine") {args : List Value} {hp : Hp} {nx wm : Nat} (hN : args.length ≤ fn.ntmps) (h5 : args.length ≤ 512)
    {outs : List (Option Ex × St)} (h : SimC P fn.ntmps c ⟨regOf args 0 (t3 Value), hp, nx, wm⟩ outs) {oc : Oc}
    (ho : ∀ o ∈ outs, (o.1 = none ∨ o.1 = some .ret) ∧ ∃ vs, resV P o.2.rg o.2.hp fn.results.toList = some vs ∧ oc = ⟨resOne vs, o.2.hp, o.2.nx, o.2.wm⟩) : SimF P (.func f) args hp nx wm oc := by
  refine ⟨⟨fn, hf, by rw [hb]; rfl, hname⟩, fun G E w args' ro n R hr hl hR => calls_wd ?_⟩
  refine callsIn_of_wp_marks hf hb trivial ?_
  have hla := hl.length
  refine h G E [] _ w none n _ ⟨hr, regOf_rr hl h5, ?_, (fun _ hp0 => nomatch hp0), ⟨[], rfl, List.nodup_nil, (fun _ h => nomatch h)⟩⟩ (fun _ h => nomatch h) fun o hmem E' pv' a' w' hok hpo hpv => ?_
  · simp; omega
  · obtain ⟨he, vs, hvs, rfl⟩ := ho o hmem
    have key : LeavesInM (Wd none) n P fn a'.tmps R a'.defers .returning w' := by
      obtain ⟨Ds, hds, hnd, hD⟩ := hok.dfr
      rw [hds]
      refine leaves_marks Ds w' hnd (fun D h => (hok.prv _ (hD D h)).1) fun w'' hs hw hio => ?_
      have hp2 : Post G E hp nx wm w E' o.2.hp o.2.nx o.2.wm w'' := hpo.priv hs fun r hr => hw r fun hrD => by
        obtain ⟨h1, h2⟩ := hok.prv _ (hD r hrD)
        rcases hr with hr | ⟨m, x, k, e, g, ex⟩
        · rcases hpv.new _ (hD r hrD) with h | h
          · cases h
          · simp only at h; omega
        · exact h2 m x k e g ex
      obtain ⟨v', h1, h2⟩ := results_run hp2.rel hok.rr hvs
      exact ⟨v', h1, hR E' v' w'' h2 hp2⟩
    rcases he with he | he <;> (rw [he]; exact key)

/-! ### Rounds -/
def setPs (ps : List Nat) : List Value → Reg → Option Reg :=
  List.rec (fun vs r => List.rec (some r) (fun _ _ _ => none) vs) (fun p _ ih vs r => List.rec none (fun v vs _ => ih vs (s3 p (some v) r)) vs) ps
theorem setPs_cons (p : Nat) (ps : List Nat) (v : Value) (vs : List Value) (r : Reg) : setPs (p :: ps) (v :: vs) r = setPs ps vs (s3 p (some v) r) := rfl
theorem setPs_rr {E : Env} {N : Nat} : ∀ {ps : List Nat} {vs vs' : List Value} {r r' : Reg} {tm : Array Value}, setPs ps vs r = some r' → (∀ p ∈ ps, p < N ∧ p < 512) → LR E vs vs' → RR E r tm → tm.size = N →
    ps.length = vs'.length ∧ RR E r' ((ps.zip vs').foldl (fun tm (t, a) => tm.setIfInBounds t a) tm) ∧ ((ps.zip vs').foldl (fun tm (t, a) => tm.setIfInBounds t a) tm).size = N
  | [], [], vs', r, r', tm, h, _, hl, hr, hs => by
    injection h with h; subst h
    cases hl
    exact ⟨rfl, hr, hs⟩
  | [], _ :: _, _, _, _, _, h, _, _, _, _ => by cases h
  | _ :: _, [], _, _, _, _, h, _, _, _, _ => by cases h
  | p :: ps, v :: vs, vs', r, r', tm, h, hps, hl, hr, hs => by
    rw [setPs_cons] at h
    cases hl with
    | cons hv hl =>
      rename_i v' vs'
      obtain ⟨h1, h2⟩ := hps p (by simp)
      obtain ⟨q1, q2, q3⟩ := setPs_rr h (fun q hq => hps q (by simp [hq])) hl (hr.set (t := p) (by rw [hs]; exact h1) h2 hv) (by simpa using hs)
      exact ⟨by simp [q1], q2, q3⟩

def codeOf : Option Ex → Option Code
  | none => none
  | some .ret => some .ret
  | some (.exit i) => some (.exit i)

theorem SimF.round {l : Nat} {args : List Value} {hp : Hp} {nx wm : Nat} {N : Nat} {rgL : Reg} {ps : List Nat} {asg body : Code} (hg : g5 l hp = some (.lp N rgL ps asg body none)) {rg1 : Reg} (hps : setPs ps args rgL = some rg1) (hpN : ∀ p ∈ ps, p < N ∧ p < 512)
    {s2 : St} (h1 : SimC P N asg ⟨rg1, s5 l none hp, nx, wm⟩ [(none, s2)]) {e : Option Ex} {s3' : St} (h2 : SimC P N body s2 [(e, s3')]) :
    SimF P (.yield l) args hp nx wm ⟨.bool (match e with | none => true | some _ => false), s5 l (some (.lp N rgL ps asg body (codeOf e))) s3'.hp, s3'.nx, min s3'.wm l⟩ := by
  intro G E w args' ro n R lr x y hr hl hE hR
  obtain ⟨L, hL, hLps, hLa, hLb, hLp, hLs, hLt, hLr⟩ : BR G E w l lr x y (.lp N rgL ps asg body none) := hr.blk l _ _ hE hg
  have hl5 := g5_lt hg
  have hlx := hr.lt_nx hg
  obtain ⟨q1, q2, q3⟩ := setPs_rr hps hpN hl hLr hLt
  refine ⟨L.fn, (L.params.zip ⟨args'⟩).foldl (fun tm (t, a) => tm.setIfInBounds t a) L.tmps, L.assign, L.body, ?_, ?_⟩
  · have hsz : ¬ ((⟨args'⟩ : Array Value).size ≠ L.params.size) := by
      rw [← Array.length_toList (xs := L.params), hLps, q1]; simp
    simp only [Instr.yield, Instr.getLoop, Sem.run_bind, run_getObj hL (fun _ _ _ => nofun), Result.andThen_ok, Sem.run_pure, if_neg hsz]
  · refine roundIn_of_wpIn (F := Wd ro) (l := lr) trivial ?_
    -- the record lies by itself
    have hprv : Prv E (s5 l none hp) w [(lr, .loop L)] := fun p hp' => by
      simp only [List.mem_singleton] at hp'; subst hp'
      refine ⟨hL, fun m z k em gm ex => ?_⟩
      rw [g5_s5 _ _ _ _ (g5_lt gm) hl5] at gm
      split at gm
      · cases gm
      · rename_i hne
        exact hne (hr.inj m l z _ k _ em hE gm hg ex)
    have hfold : ((L.params.zip ⟨args'⟩).foldl (fun tm (t, a) => tm.setIfInBounds t a) L.tmps) = (ps.zip args').foldl (fun tm (t, a) => tm.setIfInBounds t a) L.tmps := by
      rw [← Array.foldl_toList, Array.toList_zip, hLps]
    have hok1 : Ok G E N ⟨rg1, s5 l none hp, nx, wm⟩ [(lr, .loop L)] { tmps := (L.params.zip ⟨args'⟩).foldl (fun tm (t, a) => tm.setIfInBounds t a) L.tmps, defers := [] } w :=
      ⟨hr.stop hl5 (fun i => by rw [hg]; nofun), by rw [hfold]; exact q2, by rw [hfold]; exact q3, hprv, ⟨[], rfl, List.nodup_nil, (fun _ h => nomatch h)⟩⟩
    have hrnd : ∀ L', Rnd (some lr) [(lr, .loop L')] := fun L' r h => by injection h with h; subst h; exact ⟨L', by simp⟩
    rw [hLa, hLb]
    refine h1 G E [(lr, .loop L)] _ w (some lr) n _ hok1 (hrnd L) fun o ho E1 pv1 a1 w1 hok2 hp1 hpv1 => ?_
    simp only [List.mem_singleton] at ho; subst ho
    obtain ⟨hL1, hnolive1⟩ := hok2.prv _ (hpv1.sub _ (List.mem_singleton_self _))
    have hlt1 : lr < w1.heap.size := (Array.getElem?_eq_some_iff.1 hL1).1
    refine ⟨_, run_beginRound hL1 (by rw [hLs]), ?_⟩
    obtain ⟨w2, hw2⟩ : ∃ w2, w1.putObj lr (.loop { L with state := .busy }) = w2 := ⟨_, rfl⟩
    rw [hw2]
    have hL2 : w2.heap[lr]? = some (.loop { L with state := .busy }) := by rw [← hw2]; exact World.putObj_heap_same hlt1
    have hW2 : ∀ r, r ≠ lr → w2.heap[r]? = w1.heap[r]? := fun r hr => by rw [← hw2]; exact World.putObj_heap_other hr
    have hS2 : w2.heap.size = w1.heap.size := by rw [← hw2]; simp [World.putObj]
    have hI2 : Io w1 w2 := by rw [← hw2]; exact ⟨rfl, rfl, rfl⟩
    obtain ⟨pv2, hpv2⟩ : ∃ pv2 : List (Nat × Obj), pv2 = (lr, .loop { L with state := .busy }) :: pv1.filter (fun p => p.1 != lr) := ⟨_, rfl⟩
    have hin2 : (lr, Obj.loop { L with state := .busy }) ∈ pv2 := by rw [hpv2]; simp
    have hok3 : Ok G E1 N s2 pv2 a1 w2 := by
      refine ⟨hok2.rel.priv hS2 fun r ⟨m, z, k, em, gm, ez⟩ => hW2 r (by rw [← ez]; exact hnolive1 m z k em gm), hok2.rr, hok2.size, fun p hp' => ?_, ?_⟩
      · rw [hpv2, List.mem_cons, List.mem_filter] at hp'
        rcases hp' with rfl | ⟨hp', hne⟩
        · exact ⟨hL2, hnolive1⟩
        · obtain ⟨b1, b2⟩ := hok2.prv p hp'
          exact ⟨(hW2 _ (by simpa using hne)).trans b1, b2⟩
      · obtain ⟨Ds, d1, d2, d3⟩ := hok2.dfr
        refine ⟨Ds, d1, d2, fun D hD => ?_⟩
        rw [hpv2, List.mem_cons, List.mem_filter]
        refine .inr ⟨d3 D hD, ?_⟩
        have h1 := (hok2.prv _ (d3 D hD)).1
        simp only [bne_iff_ne, ne_eq]
        intro hDl
        simp only at h1
        rw [hDl, hL1] at h1
        cases h1
    have fin : ∀ E2 pv3 a2 w3, Ok G E2 N s3' pv3 a2 w3 → Post G E1 s2.hp s2.nx s2.wm w2 E2 s3'.hp s3'.nx s3'.wm w3 → Pvs pv2 w2 pv3 →
        (Instr.endRound lr (codeOf e)).run P w3 = .ok (.bool (codeOf e).isNone) (w3.putObj lr (.loop { L with state := if (codeOf e).isNone then .ready else .done, pending := codeOf e })) ∧
        Post G E hp nx wm w E2 (s5 l (some (.lp N rgL ps asg body (codeOf e))) s3'.hp) s3'.nx (min s3'.wm l) (w3.putObj lr (.loop { L with state := if (codeOf e).isNone then .ready else .done, pending := codeOf e })) := fun E2 pv3 a2 w3 hok4 hp2 hpv3 => by
      obtain ⟨hL3', hnolive2⟩ := hok4.prv _ (hpv3.sub _ hin2)
      have hL3 : w3.heap[lr]? = some (.loop { L with state := .busy }) := hL3'
      have hlt3 : lr < w3.heap.size := (Array.getElem?_eq_some_iff.1 hL3).1
      have hend := run_endRound (P := P) (codeOf e) hL3
      refine ⟨hend, ?_⟩
      obtain ⟨u, hu⟩ : ∃ u, w3.putObj lr (.loop L) = u := ⟨_, rfl⟩
      have hu1 : u.heap[lr]? = some (.loop L) := by rw [← hu]; exact World.putObj_heap_same hlt3
      have hu2 : ∀ r, r ≠ lr → u.heap[r]? = w3.heap[r]? := fun r hr => by rw [← hu]; exact World.putObj_heap_other hr
      have hu3 : u.heap.size = w3.heap.size := by rw [← hu]; simp [World.putObj]
      have hI3 : Io w3 u := by rw [← hu]; exact ⟨rfl, rfl, rfl⟩
      have hpu : Post G E1 s2.hp s2.nx s2.wm w1 E2 s3'.hp s3'.nx s3'.wm u := by
        refine ⟨hp2.old, hp2.rel.priv hu3 fun r ⟨m, z, k, em, gm, ez⟩ => hu2 r (by rw [← ez]; exact hnolive2 m z k em gm), hp2.nxle, hp2.wmle, ⟨by rw [hu3, ← hS2]; exact hp2.kept.size, fun r hr0 hx => ?_, hI2.trans (hp2.kept.io.trans hI3)⟩, hp2.log, hp2.dead, fun n x hn ex => ?_⟩
        · by_cases h : r = lr
          · subst h; rw [hu1, hL1]
          · rw [hu2 r h, hp2.kept.blk r (by rw [hS2]; exact hr0) hx, hW2 r h]
        · rw [← hS2]; exact hp2.fresh n x hn ex
      refine Post.wake (k := .lp N rgL ps asg body (codeOf e)) hr hE hg (fun _ => nofun) (fun _ _ _ _ _ _ => nofun) (hp1.trans hpu) ((hp1.trans hpu).dead l hlx (by rw [g5_s5 _ _ _ _ hl5 hl5, if_pos rfl])) (fun m z k em gm => hnolive2 m z k em gm) (by simp [World.putObj, ← hu]) (fun r hr => ?_) ?_ (by rw [← hu]; exact ⟨rfl, rfl, rfl⟩)
      · exact (World.putObj_heap_other hr).trans (hu2 r hr).symm
      · refine ⟨{ L with state := if (codeOf e).isNone then .ready else .done, pending := codeOf e }, World.putObj_heap_same hlt3, hLps, hLa, hLb, rfl, ?_, hLt, hLr.mono ((hp1.trans hpu).ext (hr.stop hl5 (fun i => by rw [hg]; nofun)))⟩
        cases codeOf e <;> rfl
    refine h2 G E1 _ _ w2 (some lr) n _ hok3 (fun r h => Option.some.inj h ▸ ⟨_, hin2⟩) fun o ho E2 pv3 a2 w3 hok4 hp2 hpv3 => ?_
    simp only [List.mem_singleton] at ho; subst ho
    obtain ⟨f1, f2⟩ := fin E2 pv3 a2 w3 hok4 hp2 hpv3
    rcases e with _ | (i | _)
    · exact ⟨_, _, f1, hR E2 _ _ (.bool _) f2⟩
    · exact ⟨_, _, f1, hR E2 _ _ (.bool _) f2⟩
    · exact ⟨_, _, f1, hR E2 _ _ (.bool _) f2⟩
end
end
end Go.Proofs.YtdgllpcfmkjfhaaGreat
/- How a range over a function goes. Over any program. -/
namespace Go.Proofs.YtdgllpcfmkjfhaaGreat
open Go.RowKit
noncomputable section
section
variable {P : Program} {G : Gh} {E : Env} {w : World} {hp : Hp} {nx wm : Nat}

theorem Post.grow (hr : Rel G E hp nx w) (wm : Nat) (o : Obj) : Post G E hp nx wm w E hp nx wm (w.alloc o) := by
  have hheap : ∀ r, r < w.heap.size → (w.alloc o).heap[r]? = w.heap[r]? := fun r h => Below.heap_alloc w o r h
  refine ⟨fun _ _ => rfl, ⟨hr.bound, fun n x e => by have := hr.lt n x e; simp; omega, fun n x k e g => (hr.blk n x k e g).keep (Ext.refl _) (hheap _ (hr.lt n x e)) fun m rw ks es cl st bm u v _ em => hheap _ (hr.lt m _ em), hr.inj, hr.own, hr.top⟩,
    Nat.le_refl _, Nat.le_refl _, ⟨by simp, fun r h _ => hheap r h, ⟨rfl, rfl, rfl⟩⟩, fun _ _ _ => rfl, fun _ _ h => h, fun n x hn e => by rw [hr.bound n hn] at e; cases e⟩

theorem enter_loop {pv : List (Nat × Obj)} {ds : List Deferred} (hr : Rel G E hp nx w) (hp0 : Prv E hp w pv) (hd : Dfr pv ds) {ro : Option Nat} (hro : Rnd ro pv) (wm : Nat) (fn : FuncId) (tmps : Array Value) (ps : Array Tmp) (asg body : Code) :
    ∃ (L : Loop) (mark : List Deferred) (wA : World) (pvA : List (Nat × Obj)), (Instr.enterLoop fn tmps ps asg body ro).run P w = .ok (wA.heap.size, mark) (wA.alloc (.loop L)) ∧
      (L.state = .ready ∧ L.pending = none ∧ L.tmps = tmps ∧ L.params = ps ∧ L.assign = asg ∧ L.body = body) ∧ Post G E hp nx wm w E hp nx wm wA ∧ Prv E hp wA pvA ∧ Dfr pvA (mark ++ ds) ∧ Pvs pv w pvA := by
  cases ro with
  | none =>
    refine ⟨{ state := .ready, pending := none, fn, tmps, params := ps, assign := asg, body, defers := w.heap.size }, [{ target := .collected w.heap.size, args := #[] }], w.alloc (.deferred (some [])), (w.heap.size, .deferred (some [])) :: pv, ?_, ⟨rfl, rfl, rfl, rfl, rfl, rfl⟩, Post.grow hr wm _, fun p hpm => ?_, ?_, fun p h => by simp [h], fun p h => ?_⟩
    · rw [run_enterLoop_outer]; simp
    · simp only [List.mem_cons] at hpm
      rcases hpm with rfl | hpm
      · exact ⟨World.alloc_heap_new w _, fun n x k e _ => by have := hr.lt n x e; simp only; omega⟩
      · exact (hp0.post (Post.grow hr wm _)) p hpm
    · obtain ⟨Ds, d1, d2, d3⟩ := hd
      refine ⟨w.heap.size :: Ds, by simp [d1], List.nodup_cons.2 ⟨fun hm => ?_, d2⟩, fun D hD => ?_⟩
      · have := (Array.getElem?_eq_some_iff.1 (hp0 _ (d3 _ hm)).1).1
        simp at this
      · simp only [List.mem_cons] at hD ⊢
        rcases hD with rfl | hD
        · exact .inl rfl
        · exact .inr (d3 D hD)
    · simp only [List.mem_cons] at h
      rcases h with rfl | h
      · exact .inr (Nat.le_refl _)
      · exact .inl h
  | some r =>
    obtain ⟨L0, hL0⟩ := hro r rfl
    have hg := (hp0 _ hL0).1
    refine ⟨{ state := .ready, pending := none, fn, tmps, params := ps, assign := asg, body, defers := L0.defers }, [], w, pv, ?_, ⟨rfl, rfl, rfl, rfl, rfl, rfl⟩, Post.refl hr wm, hp0, by simpa using hd, Pvs.refl _ _⟩
    unfold Instr.enterLoop
    simp only [Sem.run_bind, run_getLoop hg, Result.andThen_ok, Sem.run_pure, run_newObj_alloc]

def exOf : Option Code → Option (Option Ex)
  | none => some none
  | some .ret => some (some .ret)
  | some (.exit i) => some (some (.exit i))
  | _ => none

variable {N : Nat} {s : St}
theorem SimC.rangeFunc {g : Operand} {ps : Array Tmp} {asg body : Code} {f : FuncId} {first cap : List Value} (hg : opv s.rg g = some (.func (.func f) ⟨first⟩ ⟨cap⟩)) (hx : s.nx < 32768) {oc : Oc}
    (h : SimF P (.func f) (first ++ (.func (.yield s.nx) ⟨[]⟩ ⟨[]⟩ :: cap)) (s5 s.nx (some (.lp N s.rg ps.toList asg body none)) s.hp) (s.nx + 1) s.wm oc)
    {N' : Nat} {rg' : Reg} {ps' : List Nat} {asg' body' : Code} {pend : Option Code} (hl : g5 s.nx oc.hp = some (.lp N' rg' ps' asg' body' pend)) {e : Option Ex} (he : exOf pend = some e) :
    SimC P N (.rangeFunc g ps asg body) s [(e, ⟨s.rg, s5 s.nx none oc.hp, oc.nx, min oc.wm s.nx⟩)] := by
  intro G E pv a w ro n Q hok hro hQ
  obtain ⟨⟨fn0, hf1, hf2, hf3⟩, hcall⟩ := h
  refine wpIn_rangeFunc fun fn _ => ?_
  obtain ⟨L, mark, wA, pvA, hent, ⟨l1, l2, l3, l4, l5, l6⟩, hpA, hprA, hdfA, hpvA⟩ := enter_loop (P := P) hok.rel hok.prv hok.dfr hro s.wm fn a.tmps ps asg body
  have hev := opv_eval hok.rr hg
  revert hev
  generalize hq : a.eval g = q
  intro hev
  cases hev with
  | func f h1 h2 =>
  rename_i b d
  have hext := hpA.rel.ext_add (wA.heap.size, 0, 0)
  have hp1 := Post.alloc hpA.rel s.wm 0 (.loop L) (.lp N s.rg ps.toList asg body none) hx
    ⟨L, World.alloc_heap_new wA _, by rw [l4], l5, l6, l2, l1, by rw [l3]; exact hok.size, by rw [l3]; exact hok.rr.mono hext⟩ (fun _ _ _ _ _ _ => nofun)
  refine ⟨wA.heap.size, mark, wA.alloc (.loop L), { target := .fn (.func f) ⟨d⟩, args := ⟨b⟩ ++ #[.func (.yield wA.heap.size) #[] #[]] }, wA.alloc (.loop L), f, ⟨b ++ (.func (.yield wA.heap.size) #[] #[] :: d)⟩, wA.alloc (.loop L), hent, ?_, fun _ _ => trivial, ?_, (fun hh => nomatch hh), ?_⟩
  · have hc : a.eval (.const (.func (.yield wA.heap.size) #[] #[])) = .func (.yield wA.heap.size) #[] #[] := rfl
    simp only [resolve, hq, List.map_toArray, List.map_cons, List.map_nil, hc, Deferred.ofValue, Sem.run_pure]
  · have hargs : ((⟨b⟩ ++ #[.func (.yield wA.heap.size) #[] #[]] : Array Value) ++ ⟨d⟩) = ⟨b ++ (.func (.yield wA.heap.size) #[] #[] :: d)⟩ := by apply Array.ext'; simp
    have hn : (fn0.name == "runtime.NumGoroutine") = false := by simpa using hf3
    have hb : fn0.body.isNone = false := by cases hfb : fn0.body <;> simp_all
    simp only [invoke, callFunc, Sem.run_bind, run_program, Result.andThen_ok, hf1, hargs]
    simp [hn, hb]
  · refine hcall G _ _ _ ro (n - 1) _ hp1.rel ((h1.mono hext).append (.cons (.yld (base := 0) (ext := 0) (Env.add_self _ _ _)) (h2.mono hext))) fun E' v' w3 hv hp3 => ?_
    have hA := hpA.trans hp1
    have e3 : E' s.nx = some (wA.heap.size, 0, 0) := by rw [hp3.old _ (by omega)]; exact Env.add_self _ _ _
    obtain ⟨L', hL', _, _, _, hLp, hLs, _, _⟩ : BR G E' w3 s.nx wA.heap.size 0 0 (.lp N' rg' ps' asg' body' pend) := hp3.rel.blk _ _ _ e3 hl
    have hlt3 : wA.heap.size < w3.heap.size := (Array.getElem?_eq_some_iff.1 hL').1
    have hbusy : L'.state ≠ .busy := by rw [hLs]; cases pend <;> nofun
    have hnx3 := hp3.nxle
    have hp4 := Post.stop hp3.rel oc.wm (n := s.nx) (by omega) hx (fun i => by rw [hl]; nofun)
    have hno4 : ∀ m z k, E' m = some z → g5 m (s5 s.nx none oc.hp) = some k → z.1 ≠ wA.heap.size := fun m z k em gm ez => by
      rw [g5_s5 _ _ _ _ (g5_lt gm) hx] at gm
      split at gm
      · cases gm
      · rename_i hne
        exact hne (hp3.rel.inj m s.nx z _ k _ em e3 gm hl ez)
    have hsz : (w3.putObj wA.heap.size (.loop { L' with state := .exhausted })).heap.size = w3.heap.size := by simp [World.putObj]
    have hAall : Post G E s.hp s.nx s.wm w E' (s5 s.nx none oc.hp) oc.nx (min oc.wm s.nx) w3 := (hA.trans hp3).trans hp4
    have hfin : Post G E s.hp s.nx s.wm w E' (s5 s.nx none oc.hp) oc.nx (min oc.wm s.nx) (w3.putObj wA.heap.size (.loop { L' with state := .exhausted })) := by
      refine hAall.priv hsz fun r hr => World.putObj_heap_other ?_
      rcases hr with hr | ⟨m, x, k, em, gm, ex⟩
      · have := hpA.kept.size; omega
      · intro h; rw [← ex] at h; exact hno4 m x k em gm h
    have hB : Post G E s.hp s.nx s.wm wA E' (s5 s.nx none oc.hp) oc.nx (min oc.wm s.nx) (w3.putObj wA.heap.size (.loop { L' with state := .exhausted })) := by
      refine ((hp1.trans hp3).trans hp4).priv hsz fun r hr => World.putObj_heap_other ?_
      rcases hr with hr | ⟨m, x, k, em, gm, ex⟩
      · omega
      · intro h; rw [← ex] at h; exact hno4 m x k em gm h
    have hokF : Ok G E' N ⟨s.rg, s5 s.nx none oc.hp, oc.nx, min oc.wm s.nx⟩ pvA { a with defers := mark ++ a.defers } (w3.putObj wA.heap.size (.loop { L' with state := .exhausted })) :=
      ⟨hfin.rel, hok.rr.mono (hfin.ext hok.rel), hok.size, hprA.post hB, hdfA⟩
    have hQ' := hQ _ (List.mem_singleton_self _) E' pvA _ _ hokF hfin hpvA
    refine ⟨pend, _, by rw [← hLp]; exact run_endLoop hL' hbusy, ?_⟩
    match pend, he with
    | none, he => injection he with he; subst he; exact hQ'
    | some .ret, he => injection he with he; subst he; exact wpIn_ret hQ'
    | some (.exit i), he => injection he with he; subst he; exact wpIn_exit hQ'
end
end
end Go.Proofs.YtdgllpcfmkjfhaaGreat
/- Regions that draw their order: the text's order does for all. Over any program. (The parts.) -/
namespace Go.Proofs.YtdgllpcfmkjfhaaGreat
open Go.RowKit
set_option linter.unusedVariables false
noncomputable section
section
variable {E E2 : Env}
mutual
theorem VR.back (hx : Ext E E2) : ∀ {v v0 v' : Value}, VR E v v0 → VR E2 v v' → VR E v v'
  | _, _, _, .bool b, h => by cases h; exact .bool b
  | _, _, _, .int k n, h => by cases h; exact .int k n
  | _, _, _, .str s, h => by cases h; exact .str s
  | _, _, _, .nilp, h => by cases h; exact .nilp
  | _, _, _, .ptr o h1, h => by
    obtain ⟨b, base, ext, e, rfl⟩ := h.ptr_inv
    rw [hx _ _ h1] at e; injection e with e; injection e with e1 e2; injection e2 with e2 e3; subst e1; subst e2; subst e3; exact .ptr o h1
  | _, _, _, .nils l c, h => by cases h; exact .nils l c
  | _, _, _, .slc o l c h1 hc, h => by
    rcases h.slice_cases with ⟨n, b, base, ext, k, e, ha, rfl, _⟩ | ⟨n, b, base, ext, k, c0, s, c', e, ha, rfl, h2, h3, h4, _⟩ | ⟨a', c', rfl, h2, h3⟩
    · injection ha with h5 h6; subst h5; subst h6
      rw [hx _ _ h1] at e; injection e with e; injection e with e1 e2; injection e2 with e2 e3; subst e1; subst e2; subst e3
      exact .slc o l c h1 hc
    · exfalso
      have : OM ≤ OM * (s + 1) := Nat.le_mul_of_pos_right _ (by omega)
      omega
    · exfalso; subst h3; revert hc; unfold VG OM; omega
  | _, _, _, .opn o l c s c' h1 hc hs hle hf, h => by
    rcases h.slice_cases with ⟨n, b, base, ext, k, e, ha, rfl, h2⟩ | ⟨n, b, base, ext, k, c0, s', c'', e, ha, rfl, h2, h3, h4, h5, h6⟩ | ⟨a', c'', rfl, h2, h3⟩
    · exfalso
      have : OM ≤ OM * (s + 1) := Nat.le_mul_of_pos_right _ (by omega)
      omega
    · injection ha with h7 h8; subst h7; subst h8
      rw [hx _ _ h1] at e; injection e with e; injection e with e1 e2; injection e2 with e2 e3; subst e1; subst e2; subst e3
      have hss : s = s' := by
        have h9 : (c + OM * (s + 1)) / OM = s + 1 := by rw [Nat.add_mul_div_left _ _ (by unfold OM; omega), Nat.div_eq_of_lt hc]; omega
        have h10 : (c0 + OM * (s' + 1)) / OM = s' + 1 := by rw [Nat.add_mul_div_left _ _ (by unfold OM; omega), Nat.div_eq_of_lt h3]; omega
        rw [h2, h10] at h9; omega
      subst hss
      have : c = c0 := by omega
      subst this
      exact .opn o l c s c'' h1 hc hs h5 h6
    · exfalso
      have h9 : (c + OM * (s + 1)) / OM = s + 1 := by rw [Nat.add_mul_div_left _ _ (by unfold OM; omega), Nat.div_eq_of_lt hc]; omega
      rw [h3] at h9
      have : VG / OM = OM := by decide
      omega
  | _, _, _, .vag a a' c', h => by
    rcases h.slice_cases with ⟨n, b, base, ext, k, e, ha, rfl, h2⟩ | ⟨n, b, base, ext, k, c0, s', c'', e, ha, rfl, h2, h3, h4, h5, h6⟩ | ⟨a', c'', rfl, h2, h3⟩
    · exfalso; revert h2; unfold VG OM; omega
    · exfalso
      have h10 : (c0 + OM * (s' + 1)) / OM = s' + 1 := by rw [Nat.add_mul_div_left _ _ (by unfold OM; omega), Nat.div_eq_of_lt h3]; omega
      rw [← h2] at h10
      have : VG / OM = OM := by decide
      omega
    · exact .vag _ _ _
  | _, _, _, .nilm, h => by cases h; exact .nilm
  | _, _, _, .map h1, h => by
    obtain ⟨b, base, ext, e, rfl⟩ := h.map_inv
    rw [hx _ _ h1] at e; injection e with e; injection e with e1 e2; subst e1; exact .map h1
  | _, _, _, .func f h1 h2, h => by cases h with | func _ h3 h4 => exact .func f (h1.back hx h3) (h2.back hx h4)
  | _, _, _, .yld h1, h => by cases h with | yld h2 => rw [hx _ _ h1] at h2; injection h2 with e; injection e with e1 e2; subst e1; exact .yld h1
  | _, _, _, .nilf, h => by cases h; exact .nilf
  | _, _, _, .nili, h => by cases h; exact .nili
  | _, _, _, .agg h1 h2, h => by cases h with | agg h3 h4 => exact .agg (h1.back hx h3) h2
  | _, _, _, .tup h1, h => by cases h with | tup h3 => exact .tup (h1.back hx h3)
theorem LR.back (hx : Ext E E2) : ∀ {v v0 v' : List Value}, LR E v v0 → LR E2 v v' → LR E v v'
  | _, _, _, .nil, h => by cases h; exact .nil
  | _, _, _, .cons h1 h2, h => by cases h with | cons h3 h4 => exact .cons (h1.back hx h3) (h2.back hx h4)
end
theorem MR.back (hx : Ext E E2) : ∀ {l l0 l' : List MapEntry}, MR E l l0 → MR E2 l l' → MR E l l'
  | [], _, [], _, _ => trivial
  | [], _, _ :: _, _, h => h.elim
  | _ :: _, [], _, h, _ => h.elim
  | _ :: _, _ :: _, [], _, h => h.elim
  | _ :: _, _ :: _, _ :: _, h, h' => ⟨h.1.back hx h'.1, h.2.1.back hx h'.2.1, h'.2.2.1, h.2.2.2.back hx h'.2.2.2⟩
theorem MR.filter {p : Nat → Bool} : ∀ {l l' : List MapEntry}, MR E l l' → MR E (l.filter fun e => p e.born) (l'.filter fun e => p e.born)
  | [], [], _ => trivial
  | [], _ :: _, h => h.elim
  | _ :: _, [], h => h.elim
  | a :: l, b :: l', h => by
    rw [List.filter_cons, List.filter_cons, ← h.2.2.1]
    cases p a.born with
    | true => exact ⟨h.1, h.2.1, h.2.2.1, h.2.2.2.filter⟩
    | false => exact h.2.2.2.filter
end

section
variable {P : Program}

theorem room_Wd {ro : Option Nat} (n : Nat) : (Wd ro).room n := room_wide n
theorem SimO.get {o : Oper} {s : St} {c : Oc} (h : SimO P o s [c]) {G : Gh} {E : Env} {pv : List (Nat × Obj)} {a : Act} {w : World} {ro : Option Nat} (hr : Rel G E s.hp s.nx w) (hg : RR E s.rg a.tmps) (hp : Prv E s.hp w pv) (hro : Rnd ro pv) :
    ∃ E' v' w', VR E' c.v v' ∧ Post G E s.hp s.nx s.wm w E' c.hp c.nx c.wm w' := by
  have h1 := (h G E pv a w ro 0 (fun _ _ => ∃ E' v' w', VR E' c.v v' ∧ Post G E s.hp s.nx s.wm w E' c.hp c.nx c.wm w') (fun _ _ _ => False) hr hg hp hro fun c' hc E' v' w' hv hp => by
    simp only [List.mem_singleton] at hc; subst hc; exact ⟨E', v', w', hv, hp⟩).2
  revert h1
  generalize (o.semAt (Wd ro).round a.eval).run P w = r
  intro h1
  cases r with
  | ok x w1 =>
    cases x <;> simp only [Oper.uponIn] at h1
    case value v => exact h1
    case skip => exact h1
    case defer d => exact h1
    case enter f args =>
      obtain ⟨e, w2, fr, hR, _⟩ := h1.2.2 [] (room_Wd _)
      cases e with
      | returned v => exact hR
      | panicked ch => exact hR.elim
      | outgrown => exact (let ⟨_, _, hh⟩ := hR; hh.elim)
    case row r args =>
      obtain ⟨v, w2, hR, _⟩ := h1.2 default [] (room_Wd _)
      exact hR
    case round l f tm as bd =>
      obtain ⟨e, w2, hR, _⟩ := h1.2.2 default [] (room_Wd _)
      cases e with
      | returned v => exact hR
      | panicked ch => exact hR.elim
      | outgrown => exact (let ⟨_, _, hh⟩ := hR; hh.elim)
  | halt x w1 => cases x <;> simp only [Oper.uponIn] at h1

variable {G : Gh} {E E' E0 : Env} {w w' w0 : World} {hp hp' hp0 : Hp} {nx nx' nx0 wm wm' wm0 : Nat}

theorem Post.stay (h : Post G E0 hp0 nx0 wm0 w0 E hp nx wm w) (hs : w.heap.size ≤ w'.heap.size) (hw : ∀ r, r < w.heap.size → w'.heap[r]? = w.heap[r]?) (hio : Io w w' := by first | exact ⟨rfl, rfl, rfl⟩ | assumption) : Post G E0 hp0 nx0 wm0 w0 E hp nx wm w' :=
  ⟨h.old, ⟨h.rel.bound, fun n x e => Nat.lt_of_lt_of_le (h.rel.lt n x e) hs, fun n x k e g => (h.rel.blk n x k e g).keep (Ext.refl _) (hw _ (h.rel.lt n x e)) fun m rw ks es cl st bm u v _ em => hw _ (h.rel.lt m _ em), h.rel.inj, h.rel.own, h.rel.top⟩,
    h.nxle, h.wmle, ⟨Nat.le_trans h.kept.size hs, fun r hr hx => (hw r (Nat.lt_of_lt_of_le hr h.kept.size)).trans (h.kept.blk r hr hx), h.kept.io.trans hio⟩, h.log, h.dead, h.fresh⟩

structure Goes (hp : Hp) (nx : Nat) (hp' : Hp) (nx' : Nat) : Prop where
  le : nx ≤ nx'
  same : ∀ n, n < nx → g5 n hp' = g5 n hp
  top : ∀ n, nx' ≤ n → g5 n hp' = none
  own : ∀ n m rw ks es cl st, g5 n hp' = some (.fit m rw ks es cl st) → g5 m hp' = some (.fmp n)

theorem Post.later (h : Post G E0 hp0 nx0 wm0 w0 E hp nx wm w) (hg : Goes hp nx hp' nx') : Post G E0 hp0 nx0 wm0 w0 E hp' nx' wm w := by
  have hle := hg.le
  have hnx := h.nxle
  have hlt : ∀ n x, E n = some x → n < nx := fun n x e => by
    rcases Nat.lt_or_ge n nx with h' | h'
    · exact h'
    · rw [h.rel.bound n h'] at e; cases e
  refine ⟨h.old, ⟨fun n hn => h.rel.bound n (by omega), h.rel.lt, fun n x k e g => h.rel.blk n x k e (by rw [← hg.same n (hlt n x e)]; exact g), fun n m x y k k' e1 e2 g1 g2 => h.rel.inj n m x y k k' e1 e2 (by rw [← hg.same n (hlt n x e1)]; exact g1) (by rw [← hg.same m (hlt m y e2)]; exact g2), hg.own, hg.top⟩,
    by omega, h.wmle, h.kept, fun n hn hn' => (hg.same n (by omega)).trans (h.log n hn hn'), fun n hn gn => (hg.same n (by omega)).trans (h.dead n hn gn), h.fresh⟩

def Env.upto (E : Env) (n : Nat) : Env := fun m => if m < n then E m else none
theorem Env.upto_lt {n m : Nat} (h : m < n) : E.upto n m = E m := if_pos h
theorem Env.upto_ge {n m : Nat} (h : n ≤ m) : E.upto n m = none := if_neg (by omega)
theorem Env.upto_ext {n m : Nat} (h : n ≤ m) : Ext (E.upto n) (E.upto m) := fun k x e => by
  rcases Nat.lt_or_ge k n with h' | h'
  · rw [Env.upto_lt h'] at e; rw [Env.upto_lt (by omega)]; exact e
  · rw [Env.upto_ge h'] at e; cases e
theorem Env.upto_self {n : Nat} (h : ∀ m, n ≤ m → E m = none) : E.upto n = E := funext fun m => by
  rcases Nat.lt_or_ge m n with h' | h'
  · exact Env.upto_lt h'
  · rw [Env.upto_ge h', h m h']

theorem Post.join {Ep Ei Es : Env} {hpp hpi hpi' : Hp} {nxp nxi nxi' u : Nat} (h : Post G E0 hp0 nx0 wm0 w0 Ep hpp nxp wm w) (hR : Post G Ei hpi nxi nxi w E' hpi' nxi' u w') (hu : nxi ≤ u) (hi : ∀ n, nxi ≤ n → Ei n = none)
    (hEi : ∀ n, n < nxi → Ei n = Ep n) (h0 : nx0 ≤ nxi) (hp : nxi' ≤ nxp) (hg : ∀ n, n < nxi' → g5 n hpp = g5 n hpi') (he : ∀ n, nxi ≤ n → n < nxi' → Ep n = none)
    (hs1 : ∀ n, nxi ≤ n → n < nxi' → Es n = E' n) (hs2 : ∀ n, ¬ (nxi ≤ n ∧ n < nxi') → Es n = Ep n) : Post G E0 hp0 nx0 wm0 w0 Es hpp nxp wm w' := by
  have hkeep : ∀ r, r < w.heap.size → w'.heap[r]? = w.heap[r]? := fun r hr => hR.kept.blk r hr fun n x k e _ hn => by rw [hi n (by omega)] at e; cases e
  have hst := h.stay hR.kept.size hkeep hR.kept.io
  have hx1 : Ext E' Es := fun n x e => by
    rcases Nat.lt_or_ge n nxi with h1 | h1
    · rw [hs2 n (by omega), ← hEi n h1, ← hR.old n h1]; exact e
    · rcases Nat.lt_or_ge n nxi' with h2 | h2
      · rw [hs1 n h1 h2]; exact e
      · rw [hR.rel.bound n h2] at e; cases e
  have hx2 : Ext Ep Es := fun n x e => by
    by_cases h1 : nxi ≤ n ∧ n < nxi'
    · rw [he n h1.1 h1.2] at e; cases e
    · rw [hs2 n h1]; exact e
  have hnew : ∀ n x, nxi ≤ n → n < nxi' → Es n = some x → w.heap.size ≤ x.1 := fun n x h1 h2 e => by
    rw [hs1 n h1 h2] at e
    rcases hR.fresh n x h1 e with hf | ⟨m, y, k, hm, em, _⟩
    · exact hf
    · rw [hi m (by omega)] at em; cases em
  refine ⟨fun n hn => by rw [hs2 n (by omega)]; exact h.old n hn, ⟨fun n hn => ?_, fun n x e => ?_, fun n x k e g => ?_, fun n m x y k k' e1 e2 g1 g2 hxy => ?_, h.rel.own, h.rel.top⟩, h.nxle, h.wmle, hst.kept, h.log, h.dead, fun n x hn e => ?_⟩
  · rw [hs2 n (by omega)]; exact h.rel.bound n hn
  · by_cases h1 : nxi ≤ n ∧ n < nxi'
    · rw [hs1 n h1.1 h1.2] at e; exact hR.rel.lt n x e
    · rw [hs2 n h1] at e; exact hst.rel.lt n x e
  · by_cases h1 : nxi ≤ n ∧ n < nxi'
    · rw [hs1 n h1.1 h1.2] at e
      rw [hg n h1.2] at g
      exact (hR.rel.blk n x k e g).keep hx1 rfl fun _ _ _ _ _ _ _ _ _ _ _ => rfl
    · rw [hs2 n h1] at e
      exact (hst.rel.blk n x k e g).keep hx2 rfl fun _ _ _ _ _ _ _ _ _ _ _ => rfl
  · by_cases h1 : nxi ≤ n ∧ n < nxi'
    · by_cases h2 : nxi ≤ m ∧ m < nxi'
      · rw [hs1 n h1.1 h1.2] at e1
        rw [hs1 m h2.1 h2.2] at e2
        rw [hg n h1.2] at g1
        rw [hg m h2.2] at g2
        exact hR.rel.inj n m x y k k' e1 e2 g1 g2 hxy
      · have := hnew n x h1.1 h1.2 e1
        rw [hs2 m h2] at e2
        have := h.rel.lt m y e2
        omega
    · by_cases h2 : nxi ≤ m ∧ m < nxi'
      · have := hnew m y h2.1 h2.2 e2
        rw [hs2 n h1] at e1
        have := h.rel.lt n x e1
        omega
      · rw [hs2 n h1] at e1
        rw [hs2 m h2] at e2
        exact h.rel.inj n m x y k k' e1 e2 g1 g2 hxy
  · by_cases h1 : nxi ≤ n ∧ n < nxi'
    · exact .inl (Nat.le_trans h.kept.size (hnew n x h1.1 h1.2 e))
    · rw [hs2 n h1] at e; exact h.fresh n x hn e
end
end
end Go.Proofs.YtdgllpcfmkjfhaaGreat
