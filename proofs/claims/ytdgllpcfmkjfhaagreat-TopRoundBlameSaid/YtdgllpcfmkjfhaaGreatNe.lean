/- Texts of the proof, laid together by program. -/
import Derived.Test.YtdgllpcfmkjfhaaGreatMr
import Derived.Test.YtdgllpcfmkjfhaaGreatMs
import Derived.Test.YtdgllpcfmkjfhaaGreatMt
import Derived.Test.YtdgllpcfmkjfhaaGreatMu
import Derived.Test.YtdgllpcfmkjfhaaGreatMv
import Derived.Test.YtdgllpcfmkjfhaaGreatMw
import Derived.Test.YtdgllpcfmkjfhaaGreatMx
import Derived.Test.YtdgllpcfmkjfhaaGreatMy
import Derived.Test.YtdgllpcfmkjfhaaGreatMz
import Derived.Test.YtdgllpcfmkjfhaaGreatNa
import Derived.Test.YtdgllpcfmkjfhaaGreatNb
import Derived.Test.YtdgllpcfmkjfhaaGreatNc
import Derived.Test.YtdgllpcfmkjfhaaGreatNd
set_option linter.unusedSimpArgs false
set_option linter.unusedVariables false
/- Inns round a lake: the walk, for all numbers. -/
namespace Go.Proofs.YtdgllpcfmkjfhaaGreat
open Go Go.RowKit
theorem rnd_all : ∀ q, q < 6 → ∀ s, s < 3 + q → rnd q s = true
  | 0, _, 0, _ => T8_0_0
  | 0, _, 1, _ => T8_0_1
  | 0, _, 2, _ => T8_0_2
  | 0, _, s + 3, h => absurd h (by omega)
  | 1, _, 0, _ => T8_1_0
  | 1, _, 1, _ => T8_1_1
  | 1, _, 2, _ => T8_1_2
  | 1, _, 3, _ => T8_1_3
  | 1, _, s + 4, h => absurd h (by omega)
  | 2, _, 0, _ => T8_2_0
  | 2, _, 1, _ => T8_2_1
  | 2, _, 2, _ => T8_2_2
  | 2, _, 3, _ => T8_2_3
  | 2, _, 4, _ => T8_2_4
  | 2, _, s + 5, h => absurd h (by omega)
  | 3, _, 0, _ => T8_3_0
  | 3, _, 1, _ => T8_3_1
  | 3, _, 2, _ => T8_3_2
  | 3, _, 3, _ => T8_3_3
  | 3, _, 4, _ => T8_3_4
  | 3, _, 5, _ => T8_3_5
  | 3, _, s + 6, h => absurd h (by omega)
  | 4, _, 0, _ => T8_4_0
  | 4, _, 1, _ => T8_4_1
  | 4, _, 2, _ => T8_4_2
  | 4, _, 3, _ => T8_4_3
  | 4, _, 4, _ => T8_4_4
  | 4, _, 5, _ => T8_4_5
  | 4, _, 6, _ => T8_4_6
  | 4, _, s + 7, h => absurd h (by omega)
  | 5, _, 0, _ => T8_5_0
  | 5, _, 1, _ => T8_5_1
  | 5, _, 2, _ => T8_5_2
  | 5, _, 3, _ => T8_5_3
  | 5, _, 4, _ => T8_5_4
  | 5, _, 5, _ => T8_5_5
  | 5, _, 6, _ => T8_5_6
  | 5, _, 7, _ => T8_5_7
  | 5, _, s + 8, h => absurd h (by omega)
  | q + 6, h, _, _ => absurd h (by omega)
theorem topRound_walk (w : World) (a b : Int) (ha : 0 ≤ a ∧ a ≤ 255) (hb : 0 ≤ b ∧ b ≤ 255) : Calls Tryz.prog 4 #[.int .u8 a, .int .u8 b] w fun e w' => e = .returned (.bool true) ∧ Below w.heap.size w w' := by
  obtain ⟨x, rfl⟩ : ∃ x : Nat, a = x := ⟨a.toNat, by omega⟩
  obtain ⟨y, rfl⟩ : ∃ y : Nat, b = y := ⟨b.toNat, by omega⟩
  exact round_calls (a := x) (b := y) (by omega) (by omega) (rnd_all _ (Nat.mod_lt _ (by omega)) _ (Nat.mod_lt _ (by omega))) w
end Go.Proofs.YtdgllpcfmkjfhaaGreat
