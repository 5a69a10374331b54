/- DrossNeeded answers true for every row, two weights and flag that Go can hand it, of any length, wherever the row lies. -/
import Derived.Test.YtdcglphekafpdaaMk
import Derived.Test.YtdcglphekafpdaaMl
import Derived.Test.YtdcglphekafpdaaMn
import Derived.Test.YtdcglphekafpdaaMo
import Derived.Test.YtdcglphekafpdaaMp
namespace Go.Proofs.Ytdcglphekafpdaa
open Go.RowKit Go.Shelf
set_option maxRecDepth 100000 in
set_option maxHeartbeats 4000000 in
theorem needed_walk (w : World) (A : Option Addr) (n c : Nat) (row : List Mt) (a b : Int) (sure : Bool) (hr : MtS w w.heap.size A n row) (a0 : 0 ≤ a) (a1 : a ≤ 4294967295) (b0 : 0 ≤ b) (b1 : b ≤ 4294967295) :
    Calls Try.prog 10 #[.slice A n c, .int .u32 a, .int .u32 b, .bool sure] w fun e w' => e = .returned (.bool true) ∧ Below w.heap.size w w' := by
  by_cases hck0 : checkRow row = 0
  · rcases Int.lt_trichotomy (a % 1000001) (b % 1000001) with hab | hab | hab
    · exact needed_lt w A n c row a b sure hr a0 a1 b0 b1 hck0 hab
    · exact needed_eq w A n c row a b sure hr a0 a1 b0 b1 hck0 hab
    · exact needed_gt w A n c row a b sure hr a0 a1 b0 b1 hck0 hab
  have HR := hid (fun V (h : Below w.heap.size w V) => hr.below h h.size)
  have h0 : Hid (decide (checkRow row = 0) = false) := hid (decide_eq_false hck0)
  go_enter Try.func10, Try.ntmps10
  go_wp2_with (first | (go_at_call 52; refine (fine_any _ A n c row (HR.out _ ?_)).mono ?_; (· exact (by repeat' (first | with_reducible assumption | with_reducible exact Below.refl _ _ | refine Below.alloc ?_ ?_ _ | refine Below.setCell ?_ ?_ _ | refine Below.drew ?_ | refine below_drewN ?_ _ | (simp; done) | (simp; omega) | omega))); rw [h0.out]; rintro e W1 ⟨rfl, hb⟩; have hbel : Below w.heap.size w W1 := Below.trans (by repeat' (first | with_reducible assumption | with_reducible exact Below.refl _ _ | refine Below.alloc ?_ ?_ _ | refine Below.setCell ?_ ?_ _ | refine Below.drew ?_ | refine below_drewN ?_ _ | (simp; done) | (simp; omega) | omega)) (hb.mono (by first | (simp; done) | (simp; omega) | omega))) | (go_at_call 19; refine (works_any _).mono ?_; rintro e W2 ⟨rfl, hb2⟩))
  go_ret
  exact ⟨rfl, Below.trans (by repeat' (first | with_reducible assumption | with_reducible exact Below.refl _ _ | refine Below.alloc ?_ ?_ _ | refine Below.setCell ?_ ?_ _ | refine Below.drew ?_ | refine below_drewN ?_ _ | (simp; done) | (simp; omega) | omega)) (hb2.mono hbel.size)⟩
theorem ownK : ownKnob Try.prog.godebug = none := by kernel_rfl
theorem u32_bd {x : Int} (h : (Lit.int .u32 x).wf = true) : 0 ≤ x ∧ x ≤ 4294967295 := by
  simp [Lit.wf, IntKind.min, IntKind.max, IntKind.signed, IntKind.bits] at h
  omega

section
open Go.ChangeShapes Go.WideShapes Go.ChangeAt Go.RowKit
set_option maxRecDepth 100000 in
theorem drossNeeded_lifted (os : Os) (started : os.Started) (H : Type) (enc : TypeId × Value → H) :
    ReturnsInHanded {} Try.checked os 10 .any (Rows.drossNeededSpec.pre6 enc Try.prog Try.f10 Rows.drossNeededRow.domain false) (Rows.drossNeededSpec.post enc Try.prog Try.f10 false true false false) := by
  refine returnsInHanded_of_change (C := Try.checked) ownK started (by kernel_rfl) Try.func10
    (ChangeSpec.witness6 (enc := enc) (C := Try.checked) false ⟨#[], #[.slice none 0 0, .int .u32 0, .int .u32 0, .bool false], []⟩ 8 (by kernel_rfl) (by kernel_rfl) (by kernel_rfl) (by kernel_rfl)) ?_
  intro W base args ds gs before hval0 hW hcnd _
  have hval : ∀ (j : Nat) t v, Try.f10.params[j]? = some t → args[j]? = some v → Value.okWide Try.prog W .any base t v := hval0
  have hW' := hW
  obtain ⟨p, q, hA0, hV, rfl, hfz, hnd⟩ := hW
  have hA : DataW.TrodAll enc Try.prog W 0 (fun _ => true) true Try.f10.params.toList args.toList ds p := hA0
  have hlt : ∀ x ∈ p, x.block < W.heap.size := fun x hx => hW'.lt x (List.mem_append_left _ hx)
  have hAll : ∀ W', Below W.heap.size W W' → DataW.TrodAll enc Try.prog W' 0 (fun b => decide (b < W.heap.size)) true Try.f10.params.toList args.toList ds p := fun W' hb => all_below laidOut hb (readable_of (by kernel_rfl)) hlt hA
  rw [Try.params10] at hA hval
  obtain ⟨v0, v1, v2, v3, d0, d1, d2, d3, p0, p1, p2, p3, rfl, rfl, rfl, h0, h1, h2, h3⟩ := trodAll_four hA
  obtain ⟨rfl, rfl⟩ := trodVars_none hV
  clear hA0 hval0
  obtain ⟨A0, n0, c0, rfl⟩ := okWide_slice Try.underlying22 (hval 0 22 v0 rfl rfl)
  obtain ⟨hc0, l0, hl0, hr0⟩ := open_mts h0
  obtain ⟨x1, rfl, rfl, rfl, wx1⟩ := open_int Try.underlying55 (hval 1 55 v1 rfl rfl) h1
  obtain ⟨x2, rfl, rfl, rfl, wx2⟩ := open_int Try.underlying55 (hval 2 55 v2 rfl rfl) h2
  obtain ⟨x3, rfl, rfl, rfl⟩ := open_bool Try.underlying4 (hval 3 4 v3 rfl rfl) h3
  refine (needed_walk W A0 n0 c0 l0 x1 x2 x3 hr0 (u32_bd wx1).1 (u32_bd wx1).2 (u32_bd wx2).1 (u32_bd wx2).2).mono fun e W' ⟨he, hb⟩ => ?_
  subst he
  exact ⟨_, rfl, ⟨_, _, _, [], _, [], hW', trodAll_cons_mk (shut_bool Try.underlying4 _) trodAll_mk0, hAll W' hb, rfl, hb.frame _, fun h => by cases h⟩⟩
/-- The law: whatever the input, it returns true, and the input reads as it did. -/
theorem drossNeeded_holds : Rows.DrossNeededSaid :=
  OpenClaim.holds_of_wide 10 Try.f10 rfl rfl rfl rfl rfl rfl rfl ⟨rfl, rfl, rfl, rfl, rfl⟩ rfl rfl rfl rfl rfl (by kernel_rfl) Try.func10 (by kernel_rfl)
    (of_decide_eq_true (by kernel_rfl)) (by unfold Func.isWrapper; first | (rw [if_pos (by decide +kernel)]; kernel_rfl) | (rw [if_neg (by decide +kernel)]; exact ⟨rfl, rfl⟩))
    (fun os started H enc _ => drossNeeded_lifted os started H enc)
end
end Go.Proofs.Ytdcglphekafpdaa
