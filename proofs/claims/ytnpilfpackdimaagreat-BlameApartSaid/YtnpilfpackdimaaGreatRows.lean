/-
  No cell of these rows narrows 'for every input' (looked for: loops, veiled, ifaces, maps, wideKeys, modest, calm, conditions, laid).
  DERIVED. THE GIVEN ROWS OF THIS SEAT. 11 by the template 'for every input the law returns true; each argument reads behind the call as it read before'; 0 by the template 'total and deterministic' (their statements: YtnpilfpackdimaaGreatTotals.lean).
  GIVEN WITH THE SEED: the statements are not yours to turn. If you find one false, say at which input.
  Laid BY PROGRAM, IN A SANDBOX (cutbox-rows.mjs): the forced cells as the released guide's own fill.sh prints them over the translation 198bf6935c013fe5… (all of the seat's roots in one cut). By AI agents, Wed Nov 11 2026. No macro, syntax, notation, axiom, sorry.
-/
import Derived.Test.YtnpilfpackdimaaGreatChecked
import GoSem.Claim
import GoSem.ClaimJoined
import GoSem.ClaimMapViews
import Derived.JoinedTies
import Derived.KernelRfl
namespace Go.Proofs.YtnpilfpackdimaaGreat
/- THE CELL 'sum', in the pinned program and in every row, IS THE sha256 OF THE DUMP (.gsa) THAT YtnpilfpackdimaaGreatProg.lean LOADS. Nothing in Lean hashes anything: it is a label: what it is worth is what the hold of that sum in a sandbox is worth. -/
noncomputable def Tryz.pinned : Pinned := { name := "ytnpilfpackdimaagreat", sum := "198bf6935c013fe537105d97f497a1eea739fc27478da24b07b9347a08552406", checked := Tryz.checked }
namespace Rows
def none {H : Type} : Left H := { results := [], args := [] }

/-- 'porringerlaw06.BlameFewests': WHATEVER THE INPUT: true; the input reads as it did. -/
def blameFewestsSpec : ChangeSpec := { name := "blameFewests", fn := fun _ => fun
  | [d1, d2] => { results := [.lit (.bool true)], args := [d1, d2] }
  | _ => none }
def blameFewestsRow : OpenClaim := { program := "ytnpilfpackdimaagreat", sum := "198bf6935c013fe537105d97f497a1eea739fc27478da24b07b9347a08552406", func := "porringer/porringerlaw06.BlameFewests", spec := "blameFewests", unfollowed := true, recurses := true, plainKeys := false, apart := false }
def BlameFewestsSaid : Prop := blameFewestsRow.holds Tryz.pinned (OpenSpec.ofChange blameFewestsSpec)

/-- ITS FALSE NEIGHBOUR: 'it returns false'. Refute it at one input. -/
def blameFewestsWrong : ChangeSpec := { name := "blameFewests", fn := fun _ => fun
  | [d1, d2] => { results := [.lit (.bool false)], args := [d1, d2] }
  | _ => none }
def BlameFewestsWrongFalsely : Prop := blameFewestsRow.holds Tryz.pinned (OpenSpec.ofChange blameFewestsWrong)

/-- 'porringerlaw06.BlameAlls': WHATEVER THE INPUT: true; the input reads as it did. -/
def blameAllsSpec : ChangeSpec := { name := "blameAlls", fn := fun _ => fun
  | [d1, d2, d3] => { results := [.lit (.bool true)], args := [d1, d2, d3] }
  | _ => none }
def blameAllsRow : OpenClaim := { program := "ytnpilfpackdimaagreat", sum := "198bf6935c013fe537105d97f497a1eea739fc27478da24b07b9347a08552406", func := "porringer/porringerlaw06.BlameAlls", spec := "blameAlls", unfollowed := true, recurses := true, plainKeys := false, apart := false }
def BlameAllsSaid : Prop := blameAllsRow.holds Tryz.pinned (OpenSpec.ofChange blameAllsSpec)

/-- ITS FALSE NEIGHBOUR: 'it returns false'. Refute it at one input. -/
def blameAllsWrong : ChangeSpec := { name := "blameAlls", fn := fun _ => fun
  | [d1, d2, d3] => { results := [.lit (.bool false)], args := [d1, d2, d3] }
  | _ => none }
def BlameAllsWrongFalsely : Prop := blameAllsRow.holds Tryz.pinned (OpenSpec.ofChange blameAllsWrong)

/-- 'porringerlaw06.BlameDuals': WHATEVER THE INPUT: true; the input reads as it did. -/
def blameDualsSpec : ChangeSpec := { name := "blameDuals", fn := fun _ => fun
  | [d] => { results := [.lit (.bool true)], args := [d] }
  | _ => none }
def blameDualsRow : OpenClaim := { program := "ytnpilfpackdimaagreat", sum := "198bf6935c013fe537105d97f497a1eea739fc27478da24b07b9347a08552406", func := "porringer/porringerlaw06.BlameDuals", spec := "blameDuals", unfollowed := true, recurses := true, plainKeys := false, apart := false }
def BlameDualsSaid : Prop := blameDualsRow.holds Tryz.pinned (OpenSpec.ofChange blameDualsSpec)

/-- ITS FALSE NEIGHBOUR: 'it returns false'. Refute it at one input. -/
def blameDualsWrong : ChangeSpec := { name := "blameDuals", fn := fun _ => fun
  | [d] => { results := [.lit (.bool false)], args := [d] }
  | _ => none }
def BlameDualsWrongFalsely : Prop := blameDualsRow.holds Tryz.pinned (OpenSpec.ofChange blameDualsWrong)

/-- 'porringerlaw06.BlameProved': WHATEVER THE INPUT: true; the input reads as it did. -/
def blameProvedSpec : ChangeSpec := { name := "blameProved", fn := fun _ => fun
  | [d1, d2, d3] => { results := [.lit (.bool true)], args := [d1, d2, d3] }
  | _ => none }
def blameProvedRow : OpenClaim := { program := "ytnpilfpackdimaagreat", sum := "198bf6935c013fe537105d97f497a1eea739fc27478da24b07b9347a08552406", func := "porringer/porringerlaw06.BlameProved", spec := "blameProved", unfollowed := true, recurses := true, plainKeys := false, apart := false }
def BlameProvedSaid : Prop := blameProvedRow.holds Tryz.pinned (OpenSpec.ofChange blameProvedSpec)

/-- ITS FALSE NEIGHBOUR: 'it returns false'. Refute it at one input. -/
def blameProvedWrong : ChangeSpec := { name := "blameProved", fn := fun _ => fun
  | [d1, d2, d3] => { results := [.lit (.bool false)], args := [d1, d2, d3] }
  | _ => none }
def BlameProvedWrongFalsely : Prop := blameProvedRow.holds Tryz.pinned (OpenSpec.ofChange blameProvedWrong)

/-- 'porringerlaw06.BlameEither': WHATEVER THE INPUT: true; the input reads as it did. -/
def blameEitherSpec : ChangeSpec := { name := "blameEither", fn := fun _ => fun
  | [d1, d2] => { results := [.lit (.bool true)], args := [d1, d2] }
  | _ => none }
def blameEitherRow : OpenClaim := { program := "ytnpilfpackdimaagreat", sum := "198bf6935c013fe537105d97f497a1eea739fc27478da24b07b9347a08552406", func := "porringer/porringerlaw06.BlameEither", spec := "blameEither", unfollowed := true, recurses := true, plainKeys := false, apart := false }
def BlameEitherSaid : Prop := blameEitherRow.holds Tryz.pinned (OpenSpec.ofChange blameEitherSpec)

/-- ITS FALSE NEIGHBOUR: 'it returns false'. Refute it at one input. -/
def blameEitherWrong : ChangeSpec := { name := "blameEither", fn := fun _ => fun
  | [d1, d2] => { results := [.lit (.bool false)], args := [d1, d2] }
  | _ => none }
def BlameEitherWrongFalsely : Prop := blameEitherRow.holds Tryz.pinned (OpenSpec.ofChange blameEitherWrong)

/-- 'porringerlaw06.BlameTight': WHATEVER THE INPUT: true; the input reads as it did. -/
def blameTightSpec : ChangeSpec := { name := "blameTight", fn := fun _ => fun
  | [d1, d2] => { results := [.lit (.bool true)], args := [d1, d2] }
  | _ => none }
def blameTightRow : OpenClaim := { program := "ytnpilfpackdimaagreat", sum := "198bf6935c013fe537105d97f497a1eea739fc27478da24b07b9347a08552406", func := "porringer/porringerlaw06.BlameTight", spec := "blameTight", unfollowed := true, recurses := true, plainKeys := false, apart := false }
def BlameTightSaid : Prop := blameTightRow.holds Tryz.pinned (OpenSpec.ofChange blameTightSpec)

/-- ITS FALSE NEIGHBOUR: 'it returns false'. Refute it at one input. -/
def blameTightWrong : ChangeSpec := { name := "blameTight", fn := fun _ => fun
  | [d1, d2] => { results := [.lit (.bool false)], args := [d1, d2] }
  | _ => none }
def BlameTightWrongFalsely : Prop := blameTightRow.holds Tryz.pinned (OpenSpec.ofChange blameTightWrong)

/-- 'porringerlaw06.BlameDual': WHATEVER THE INPUT: true; the input reads as it did. -/
def blameDualSpec : ChangeSpec := { name := "blameDual", fn := fun _ => fun
  | [d1, d2] => { results := [.lit (.bool true)], args := [d1, d2] }
  | _ => none }
def blameDualRow : OpenClaim := { program := "ytnpilfpackdimaagreat", sum := "198bf6935c013fe537105d97f497a1eea739fc27478da24b07b9347a08552406", func := "porringer/porringerlaw06.BlameDual", spec := "blameDual", unfollowed := true, recurses := true, plainKeys := false, apart := false }
def BlameDualSaid : Prop := blameDualRow.holds Tryz.pinned (OpenSpec.ofChange blameDualSpec)

/-- ITS FALSE NEIGHBOUR: 'it returns false'. Refute it at one input. -/
def blameDualWrong : ChangeSpec := { name := "blameDual", fn := fun _ => fun
  | [d1, d2] => { results := [.lit (.bool false)], args := [d1, d2] }
  | _ => none }
def BlameDualWrongFalsely : Prop := blameDualRow.holds Tryz.pinned (OpenSpec.ofChange blameDualWrong)

/-- 'porringerlaw06.BlameCore': WHATEVER THE INPUT: true; the input reads as it did. -/
def blameCoreSpec : ChangeSpec := { name := "blameCore", fn := fun _ => fun
  | [d1, d2] => { results := [.lit (.bool true)], args := [d1, d2] }
  | _ => none }
def blameCoreRow : OpenClaim := { program := "ytnpilfpackdimaagreat", sum := "198bf6935c013fe537105d97f497a1eea739fc27478da24b07b9347a08552406", func := "porringer/porringerlaw06.BlameCore", spec := "blameCore", unfollowed := true, recurses := true, plainKeys := false, apart := false }
def BlameCoreSaid : Prop := blameCoreRow.holds Tryz.pinned (OpenSpec.ofChange blameCoreSpec)

/-- ITS FALSE NEIGHBOUR: 'it returns false'. Refute it at one input. -/
def blameCoreWrong : ChangeSpec := { name := "blameCore", fn := fun _ => fun
  | [d1, d2] => { results := [.lit (.bool false)], args := [d1, d2] }
  | _ => none }
def BlameCoreWrongFalsely : Prop := blameCoreRow.holds Tryz.pinned (OpenSpec.ofChange blameCoreWrong)

/-- 'porringerlaw06.BlameMore': WHATEVER THE INPUT: true; the input reads as it did. -/
def blameMoreSpec : ChangeSpec := { name := "blameMore", fn := fun _ => fun
  | [d1, d2, d3] => { results := [.lit (.bool true)], args := [d1, d2, d3] }
  | _ => none }
def blameMoreRow : OpenClaim := { program := "ytnpilfpackdimaagreat", sum := "198bf6935c013fe537105d97f497a1eea739fc27478da24b07b9347a08552406", func := "porringer/porringerlaw06.BlameMore", spec := "blameMore", unfollowed := true, recurses := true, plainKeys := false, apart := false }
def BlameMoreSaid : Prop := blameMoreRow.holds Tryz.pinned (OpenSpec.ofChange blameMoreSpec)

/-- ITS FALSE NEIGHBOUR: 'it returns false'. Refute it at one input. -/
def blameMoreWrong : ChangeSpec := { name := "blameMore", fn := fun _ => fun
  | [d1, d2, d3] => { results := [.lit (.bool false)], args := [d1, d2, d3] }
  | _ => none }
def BlameMoreWrongFalsely : Prop := blameMoreRow.holds Tryz.pinned (OpenSpec.ofChange blameMoreWrong)

/-- 'porringerlaw06.BlameApart': WHATEVER THE INPUT: true; the input reads as it did. -/
def blameApartSpec : ChangeSpec := { name := "blameApart", fn := fun _ => fun
  | [d1, d2] => { results := [.lit (.bool true)], args := [d1, d2] }
  | _ => none }
def blameApartRow : OpenClaim := { program := "ytnpilfpackdimaagreat", sum := "198bf6935c013fe537105d97f497a1eea739fc27478da24b07b9347a08552406", func := "porringer/porringerlaw06.BlameApart", spec := "blameApart", unfollowed := true, recurses := true, plainKeys := false, apart := false }
def BlameApartSaid : Prop := blameApartRow.holds Tryz.pinned (OpenSpec.ofChange blameApartSpec)

/-- ITS FALSE NEIGHBOUR: 'it returns false'. Refute it at one input. -/
def blameApartWrong : ChangeSpec := { name := "blameApart", fn := fun _ => fun
  | [d1, d2] => { results := [.lit (.bool false)], args := [d1, d2] }
  | _ => none }
def BlameApartWrongFalsely : Prop := blameApartRow.holds Tryz.pinned (OpenSpec.ofChange blameApartWrong)

/-- 'porringerlaw06.BlameSure': WHATEVER THE INPUT: true; the input reads as it did. -/
def blameSureSpec : ChangeSpec := { name := "blameSure", fn := fun _ => fun
  | [d1, d2] => { results := [.lit (.bool true)], args := [d1, d2] }
  | _ => none }
def blameSureRow : OpenClaim := { program := "ytnpilfpackdimaagreat", sum := "198bf6935c013fe537105d97f497a1eea739fc27478da24b07b9347a08552406", func := "porringer/porringerlaw06.BlameSure", spec := "blameSure", unfollowed := true, recurses := true, plainKeys := false, apart := false }
def BlameSureSaid : Prop := blameSureRow.holds Tryz.pinned (OpenSpec.ofChange blameSureSpec)

/-- ITS FALSE NEIGHBOUR: 'it returns false'. Refute it at one input. -/
def blameSureWrong : ChangeSpec := { name := "blameSure", fn := fun _ => fun
  | [d1, d2] => { results := [.lit (.bool false)], args := [d1, d2] }
  | _ => none }
def BlameSureWrongFalsely : Prop := blameSureRow.holds Tryz.pinned (OpenSpec.ofChange blameSureWrong)

/- THE SECOND FORM. 'bulk': how many values and letters a reading holds, each counted each time it is reached (what is shared counts as often as it is met; a slice's spare places count too). A statement '..UptoSaid' is the law's where the arguments, and the package variables that the reading takes, are together of bulk at most 1048576: NARROWER than '..Said'. Prove '..Said' where nothing that the law and all that it calls make is longer than what came in: it says more and counts as full. Else prove '..UptoSaid'. A law counts once. -/
mutual
def uptoBulk {H : Type} : DataW H → Nat
  | .lit (.string bytes) => bytes.length + 1
  | .lit _ => 1
  | .nil => 1
  | .ptr d => uptoBulk d + 1
  | .slice elems spare => uptoBulkAll elems + uptoBulkAll spare + 1
  | .agg parts => uptoBulkAll parts + 1
  | .iface _ d => uptoBulk d + 1
  | .map entries => uptoBulkEntries entries + 1
  | .held _ => 1
def uptoBulkAll {H : Type} : List (DataW H) → Nat
  | [] => 0
  | d :: r => uptoBulk d + uptoBulkAll r
def uptoBulkEntries {H : Type} : List (Lit × DataW H) → Nat
  | [] => 0
  | x :: r => uptoBulkEntry x + uptoBulkEntries r
def uptoBulkEntry {H : Type} : Lit × DataW H → Nat
  | (.string bytes, d) => bytes.length + uptoBulk d + 1
  | (_, d) => uptoBulk d + 1
 end
def uptoSmall : (H : Type) → List (DataW H) → Bool := fun _ ds => decide (uptoBulkAll ds ≤ 1048576)
def OpenSpec.upto (s : _root_.Go.ChangeSpec) : _root_.Go.OpenSpec := { _root_.Go.OpenSpec.ofChange s with cond := some uptoSmall }

/-- 'porringerlaw06.BlameFewests', WHERE WHAT IT READS IS OF BULK AT MOST 1048576: true; the input reads as it did. -/
def blameFewestsUptoRow : OpenClaim := { program := "ytnpilfpackdimaagreat", sum := "198bf6935c013fe537105d97f497a1eea739fc27478da24b07b9347a08552406", func := "porringer/porringerlaw06.BlameFewests", spec := "blameFewests", unfollowed := true, recurses := true, plainKeys := false, apart := false, narrowed := true }
def BlameFewestsUptoSaid : Prop := blameFewestsUptoRow.holds Tryz.pinned (OpenSpec.upto blameFewestsSpec)

/-- 'porringerlaw06.BlameAlls', WHERE WHAT IT READS IS OF BULK AT MOST 1048576: true; the input reads as it did. -/
def blameAllsUptoRow : OpenClaim := { program := "ytnpilfpackdimaagreat", sum := "198bf6935c013fe537105d97f497a1eea739fc27478da24b07b9347a08552406", func := "porringer/porringerlaw06.BlameAlls", spec := "blameAlls", unfollowed := true, recurses := true, plainKeys := false, apart := false, narrowed := true }
def BlameAllsUptoSaid : Prop := blameAllsUptoRow.holds Tryz.pinned (OpenSpec.upto blameAllsSpec)

/-- 'porringerlaw06.BlameDuals', WHERE WHAT IT READS IS OF BULK AT MOST 1048576: true; the input reads as it did. -/
def blameDualsUptoRow : OpenClaim := { program := "ytnpilfpackdimaagreat", sum := "198bf6935c013fe537105d97f497a1eea739fc27478da24b07b9347a08552406", func := "porringer/porringerlaw06.BlameDuals", spec := "blameDuals", unfollowed := true, recurses := true, plainKeys := false, apart := false, narrowed := true }
def BlameDualsUptoSaid : Prop := blameDualsUptoRow.holds Tryz.pinned (OpenSpec.upto blameDualsSpec)

/-- 'porringerlaw06.BlameProved', WHERE WHAT IT READS IS OF BULK AT MOST 1048576: true; the input reads as it did. -/
def blameProvedUptoRow : OpenClaim := { program := "ytnpilfpackdimaagreat", sum := "198bf6935c013fe537105d97f497a1eea739fc27478da24b07b9347a08552406", func := "porringer/porringerlaw06.BlameProved", spec := "blameProved", unfollowed := true, recurses := true, plainKeys := false, apart := false, narrowed := true }
def BlameProvedUptoSaid : Prop := blameProvedUptoRow.holds Tryz.pinned (OpenSpec.upto blameProvedSpec)

/-- 'porringerlaw06.BlameEither', WHERE WHAT IT READS IS OF BULK AT MOST 1048576: true; the input reads as it did. -/
def blameEitherUptoRow : OpenClaim := { program := "ytnpilfpackdimaagreat", sum := "198bf6935c013fe537105d97f497a1eea739fc27478da24b07b9347a08552406", func := "porringer/porringerlaw06.BlameEither", spec := "blameEither", unfollowed := true, recurses := true, plainKeys := false, apart := false, narrowed := true }
def BlameEitherUptoSaid : Prop := blameEitherUptoRow.holds Tryz.pinned (OpenSpec.upto blameEitherSpec)

/-- 'porringerlaw06.BlameTight', WHERE WHAT IT READS IS OF BULK AT MOST 1048576: true; the input reads as it did. -/
def blameTightUptoRow : OpenClaim := { program := "ytnpilfpackdimaagreat", sum := "198bf6935c013fe537105d97f497a1eea739fc27478da24b07b9347a08552406", func := "porringer/porringerlaw06.BlameTight", spec := "blameTight", unfollowed := true, recurses := true, plainKeys := false, apart := false, narrowed := true }
def BlameTightUptoSaid : Prop := blameTightUptoRow.holds Tryz.pinned (OpenSpec.upto blameTightSpec)

/-- 'porringerlaw06.BlameDual', WHERE WHAT IT READS IS OF BULK AT MOST 1048576: true; the input reads as it did. -/
def blameDualUptoRow : OpenClaim := { program := "ytnpilfpackdimaagreat", sum := "198bf6935c013fe537105d97f497a1eea739fc27478da24b07b9347a08552406", func := "porringer/porringerlaw06.BlameDual", spec := "blameDual", unfollowed := true, recurses := true, plainKeys := false, apart := false, narrowed := true }
def BlameDualUptoSaid : Prop := blameDualUptoRow.holds Tryz.pinned (OpenSpec.upto blameDualSpec)

/-- 'porringerlaw06.BlameCore', WHERE WHAT IT READS IS OF BULK AT MOST 1048576: true; the input reads as it did. -/
def blameCoreUptoRow : OpenClaim := { program := "ytnpilfpackdimaagreat", sum := "198bf6935c013fe537105d97f497a1eea739fc27478da24b07b9347a08552406", func := "porringer/porringerlaw06.BlameCore", spec := "blameCore", unfollowed := true, recurses := true, plainKeys := false, apart := false, narrowed := true }
def BlameCoreUptoSaid : Prop := blameCoreUptoRow.holds Tryz.pinned (OpenSpec.upto blameCoreSpec)

/-- 'porringerlaw06.BlameMore', WHERE WHAT IT READS IS OF BULK AT MOST 1048576: true; the input reads as it did. -/
def blameMoreUptoRow : OpenClaim := { program := "ytnpilfpackdimaagreat", sum := "198bf6935c013fe537105d97f497a1eea739fc27478da24b07b9347a08552406", func := "porringer/porringerlaw06.BlameMore", spec := "blameMore", unfollowed := true, recurses := true, plainKeys := false, apart := false, narrowed := true }
def BlameMoreUptoSaid : Prop := blameMoreUptoRow.holds Tryz.pinned (OpenSpec.upto blameMoreSpec)

/-- 'porringerlaw06.BlameApart', WHERE WHAT IT READS IS OF BULK AT MOST 1048576: true; the input reads as it did. -/
def blameApartUptoRow : OpenClaim := { program := "ytnpilfpackdimaagreat", sum := "198bf6935c013fe537105d97f497a1eea739fc27478da24b07b9347a08552406", func := "porringer/porringerlaw06.BlameApart", spec := "blameApart", unfollowed := true, recurses := true, plainKeys := false, apart := false, narrowed := true }
def BlameApartUptoSaid : Prop := blameApartUptoRow.holds Tryz.pinned (OpenSpec.upto blameApartSpec)

/-- 'porringerlaw06.BlameSure', WHERE WHAT IT READS IS OF BULK AT MOST 1048576: true; the input reads as it did. -/
def blameSureUptoRow : OpenClaim := { program := "ytnpilfpackdimaagreat", sum := "198bf6935c013fe537105d97f497a1eea739fc27478da24b07b9347a08552406", func := "porringer/porringerlaw06.BlameSure", spec := "blameSure", unfollowed := true, recurses := true, plainKeys := false, apart := false, narrowed := true }
def BlameSureUptoSaid : Prop := blameSureUptoRow.holds Tryz.pinned (OpenSpec.upto blameSureSpec)

end Rows
end Go.Proofs.YtnpilfpackdimaaGreat
