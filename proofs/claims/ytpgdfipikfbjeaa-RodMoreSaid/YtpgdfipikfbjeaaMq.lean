/- Texts of the proof, laid together by program. -/
import Derived.Test.YtpgdfipikfbjeaaProg
import Derived.Lib.Strings
import Derived.Lib.Slices
import Derived.Lib.Small
import Derived.Lib.Walk
import Derived.Lib.BitFns
set_option linter.unusedSimpArgs false
set_option linter.unusedVariables false
/- Walks: bits.Len of a small number. -/
namespace Go.Proofs.Ytpgdfipikfbjeaa
set_option maxHeartbeats 4000000 in
set_option maxRecDepth 100000 in
theorem len64_any (x : Int) (w : World) (h0 : 0 ≤ x) (h1 : x ≤ 255) : Calls Try.prog 101 #[.int .u64 x] w fun e w' => e = .returned (.int .i64 (Lib.bitLen x.toNat)) ∧ w' = w := by
  have h2 : ¬ (4294967296 : Int) ≤ x := by omega
  have h3 : ¬ (65536 : Int) ≤ x := by omega
  have h4 : ¬ (256 : Int) ≤ x := by omega
  go_enter Try.func101, Try.ntmps101
  go_wp2
  go_ret
  refine ⟨congrArg Ending.returned (congrArg (Value.int IntKind.i64) ?_), rfl⟩
  rw [Lib.len8_of (x % 256) (by omega) (by omega)]
  have e : (x % 256).toNat = x.toNat := by omega
  have l := Lib.bitLen_le8' (x % 256) (by omega) (by omega)
  rw [e] at l ⊢
  omega
theorem len_any (x : Int) (w : World) (h0 : 0 ≤ x) (h1 : x ≤ 255) : Calls Try.prog 87 #[.int .u64 x] w fun e w' => e = .returned (.int .i64 (Lib.bitLen x.toNat)) ∧ w = w' := by
  go_enter Try.func87, Try.ntmps87
  go_wp2_with (go_at_call 101; refine (len64_any x _ h0 h1).mono ?_; rintro e w' ⟨rfl, rfl⟩)
  go_ret
  exact ⟨rfl, rfl⟩
end Go.Proofs.Ytpgdfipikfbjeaa
