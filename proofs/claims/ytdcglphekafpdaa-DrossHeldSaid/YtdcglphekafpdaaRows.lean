/-
  No cell of these rows narrows 'for every input' (looked for: loops, veiled, ifaces, maps, wideKeys, modest, calm, conditions, laid).
  DERIVED. THE GIVEN ROWS OF THIS SEAT. 15 by the template 'for every input the law returns true; each argument reads behind the call as it read before'; 0 by the template 'total and deterministic' (their statements: YtdcglphekafpdaaTotals.lean).
  GIVEN WITH THE SEED: the statements are not yours to turn. If you find one false, say at which input.
  Laid BY PROGRAM, IN A SANDBOX (cutbox-rows.mjs): the forced cells as the released guide's own fill.sh prints them over the translation eaf619bca0430f70… (all of the seat's roots in one cut). By AI agents, Wed Nov 11 2026. No macro, syntax, notation, axiom, sorry.
-/
import Derived.Test.YtdcglphekafpdaaChecked
import GoSem.Claim
import GoSem.ClaimJoined
import GoSem.ClaimMapViews
import Derived.JoinedTies
import Derived.KernelRfl
namespace Go.Proofs.Ytdcglphekafpdaa
/- THE CELL 'sum', in the pinned program and in every row, IS THE sha256 OF THE DUMP (.gsa) THAT YtdcglphekafpdaaProg.lean LOADS. Nothing in Lean hashes anything: it is a label: what it is worth is what the hold of that sum in a sandbox is worth. -/
noncomputable def Try.pinned : Pinned := { name := "ytdcglphekafpdaa", sum := "eaf619bca0430f709924d2382f1e850db0e1c82b9f3d1e2c49c23158fcb37dfb", checked := Try.checked }
namespace Rows
def none {H : Type} : Left H := { results := [], args := [] }

/-- 'porringerlaw11.DrossRows': WHATEVER THE INPUT: true; the input reads as it did. -/
def drossRowsSpec : ChangeSpec := { name := "drossRows", fn := fun _ => fun
  | [d1, d2, d3, d4] => { results := [.lit (.bool true)], args := [d1, d2, d3, d4] }
  | _ => none }
def drossRowsRow : OpenClaim := { program := "ytdcglphekafpdaa", sum := "eaf619bca0430f709924d2382f1e850db0e1c82b9f3d1e2c49c23158fcb37dfb", func := "porringer/porringerlaw11.DrossRows", spec := "drossRows", unfollowed := true, recurses := true, plainKeys := false, apart := false }
def DrossRowsSaid : Prop := drossRowsRow.holds Try.pinned (OpenSpec.ofChange drossRowsSpec)

/-- ITS FALSE NEIGHBOUR: 'it returns false'. Refute it at one input. -/
def drossRowsWrong : ChangeSpec := { name := "drossRows", fn := fun _ => fun
  | [d1, d2, d3, d4] => { results := [.lit (.bool false)], args := [d1, d2, d3, d4] }
  | _ => none }
def DrossRowsWrongFalsely : Prop := drossRowsRow.holds Try.pinned (OpenSpec.ofChange drossRowsWrong)

/-- 'porringerlaw11.DrossTruths': WHATEVER THE INPUT: true; the input reads as it did. -/
def drossTruthsSpec : ChangeSpec := { name := "drossTruths", fn := fun _ => fun
  | [d1, d2, d3] => { results := [.lit (.bool true)], args := [d1, d2, d3] }
  | _ => none }
def drossTruthsRow : OpenClaim := { program := "ytdcglphekafpdaa", sum := "eaf619bca0430f709924d2382f1e850db0e1c82b9f3d1e2c49c23158fcb37dfb", func := "porringer/porringerlaw11.DrossTruths", spec := "drossTruths", unfollowed := true, recurses := true, plainKeys := false, apart := false }
def DrossTruthsSaid : Prop := drossTruthsRow.holds Try.pinned (OpenSpec.ofChange drossTruthsSpec)

/-- ITS FALSE NEIGHBOUR: 'it returns false'. Refute it at one input. -/
def drossTruthsWrong : ChangeSpec := { name := "drossTruths", fn := fun _ => fun
  | [d1, d2, d3] => { results := [.lit (.bool false)], args := [d1, d2, d3] }
  | _ => none }
def DrossTruthsWrongFalsely : Prop := drossTruthsRow.holds Try.pinned (OpenSpec.ofChange drossTruthsWrong)

/-- 'porringerlaw11.DrossClashes': WHATEVER THE INPUT: true; the input reads as it did. -/
def drossClashesSpec : ChangeSpec := { name := "drossClashes", fn := fun _ => fun
  | [d1, d2, d3, d4] => { results := [.lit (.bool true)], args := [d1, d2, d3, d4] }
  | _ => none }
def drossClashesRow : OpenClaim := { program := "ytdcglphekafpdaa", sum := "eaf619bca0430f709924d2382f1e850db0e1c82b9f3d1e2c49c23158fcb37dfb", func := "porringer/porringerlaw11.DrossClashes", spec := "drossClashes", unfollowed := true, recurses := true, plainKeys := false, apart := false }
def DrossClashesSaid : Prop := drossClashesRow.holds Try.pinned (OpenSpec.ofChange drossClashesSpec)

/-- ITS FALSE NEIGHBOUR: 'it returns false'. Refute it at one input. -/
def drossClashesWrong : ChangeSpec := { name := "drossClashes", fn := fun _ => fun
  | [d1, d2, d3, d4] => { results := [.lit (.bool false)], args := [d1, d2, d3, d4] }
  | _ => none }
def DrossClashesWrongFalsely : Prop := drossClashesRow.holds Try.pinned (OpenSpec.ofChange drossClashesWrong)

/-- 'porringerlaw11.DrossWrongs': WHATEVER THE INPUT: true; the input reads as it did. -/
def drossWrongsSpec : ChangeSpec := { name := "drossWrongs", fn := fun _ => fun
  | [d1, d2, d3, d4] => { results := [.lit (.bool true)], args := [d1, d2, d3, d4] }
  | _ => none }
def drossWrongsRow : OpenClaim := { program := "ytdcglphekafpdaa", sum := "eaf619bca0430f709924d2382f1e850db0e1c82b9f3d1e2c49c23158fcb37dfb", func := "porringer/porringerlaw11.DrossWrongs", spec := "drossWrongs", unfollowed := true, recurses := true, plainKeys := false, apart := false }
def DrossWrongsSaid : Prop := drossWrongsRow.holds Try.pinned (OpenSpec.ofChange drossWrongsSpec)

/-- ITS FALSE NEIGHBOUR: 'it returns false'. Refute it at one input. -/
def drossWrongsWrong : ChangeSpec := { name := "drossWrongs", fn := fun _ => fun
  | [d1, d2, d3, d4] => { results := [.lit (.bool false)], args := [d1, d2, d3, d4] }
  | _ => none }
def DrossWrongsWrongFalsely : Prop := drossWrongsRow.holds Try.pinned (OpenSpec.ofChange drossWrongsWrong)

/-- 'porringerlaw11.DrossEither': WHATEVER THE INPUT: true; the input reads as it did. -/
def drossEitherSpec : ChangeSpec := { name := "drossEither", fn := fun _ => fun
  | [d1, d2, d3, d4, d5, d6] => { results := [.lit (.bool true)], args := [d1, d2, d3, d4, d5, d6] }
  | _ => none }
def drossEitherRow : OpenClaim := { program := "ytdcglphekafpdaa", sum := "eaf619bca0430f709924d2382f1e850db0e1c82b9f3d1e2c49c23158fcb37dfb", func := "porringer/porringerlaw11.DrossEither", spec := "drossEither", unfollowed := true, recurses := true, plainKeys := false, apart := false }
def DrossEitherSaid : Prop := drossEitherRow.holds Try.pinned (OpenSpec.ofChange drossEitherSpec)

/-- ITS FALSE NEIGHBOUR: 'it returns false'. Refute it at one input. -/
def drossEitherWrong : ChangeSpec := { name := "drossEither", fn := fun _ => fun
  | [d1, d2, d3, d4, d5, d6] => { results := [.lit (.bool false)], args := [d1, d2, d3, d4, d5, d6] }
  | _ => none }
def DrossEitherWrongFalsely : Prop := drossEitherRow.holds Try.pinned (OpenSpec.ofChange drossEitherWrong)

/-- 'porringerlaw11.DrossLeft': WHATEVER THE INPUT: true; the input reads as it did. -/
def drossLeftSpec : ChangeSpec := { name := "drossLeft", fn := fun _ => fun
  | [d1, d2, d3, d4, d5] => { results := [.lit (.bool true)], args := [d1, d2, d3, d4, d5] }
  | _ => none }
def drossLeftRow : OpenClaim := { program := "ytdcglphekafpdaa", sum := "eaf619bca0430f709924d2382f1e850db0e1c82b9f3d1e2c49c23158fcb37dfb", func := "porringer/porringerlaw11.DrossLeft", spec := "drossLeft", unfollowed := true, recurses := true, plainKeys := false, apart := false }
def DrossLeftSaid : Prop := drossLeftRow.holds Try.pinned (OpenSpec.ofChange drossLeftSpec)

/-- ITS FALSE NEIGHBOUR: 'it returns false'. Refute it at one input. -/
def drossLeftWrong : ChangeSpec := { name := "drossLeft", fn := fun _ => fun
  | [d1, d2, d3, d4, d5] => { results := [.lit (.bool false)], args := [d1, d2, d3, d4, d5] }
  | _ => none }
def DrossLeftWrongFalsely : Prop := drossLeftRow.holds Try.pinned (OpenSpec.ofChange drossLeftWrong)

/-- 'porringerlaw11.DrossReached': WHATEVER THE INPUT: true; the input reads as it did. -/
def drossReachedSpec : ChangeSpec := { name := "drossReached", fn := fun _ => fun
  | [d1, d2, d3, d4] => { results := [.lit (.bool true)], args := [d1, d2, d3, d4] }
  | _ => none }
def drossReachedRow : OpenClaim := { program := "ytdcglphekafpdaa", sum := "eaf619bca0430f709924d2382f1e850db0e1c82b9f3d1e2c49c23158fcb37dfb", func := "porringer/porringerlaw11.DrossReached", spec := "drossReached", unfollowed := true, recurses := true, plainKeys := false, apart := false }
def DrossReachedSaid : Prop := drossReachedRow.holds Try.pinned (OpenSpec.ofChange drossReachedSpec)

/-- ITS FALSE NEIGHBOUR: 'it returns false'. Refute it at one input. -/
def drossReachedWrong : ChangeSpec := { name := "drossReached", fn := fun _ => fun
  | [d1, d2, d3, d4] => { results := [.lit (.bool false)], args := [d1, d2, d3, d4] }
  | _ => none }
def DrossReachedWrongFalsely : Prop := drossReachedRow.holds Try.pinned (OpenSpec.ofChange drossReachedWrong)

/-- 'porringerlaw11.DrossNeeded': WHATEVER THE INPUT: true; the input reads as it did. -/
def drossNeededSpec : ChangeSpec := { name := "drossNeeded", fn := fun _ => fun
  | [d1, d2, d3, d4] => { results := [.lit (.bool true)], args := [d1, d2, d3, d4] }
  | _ => none }
def drossNeededRow : OpenClaim := { program := "ytdcglphekafpdaa", sum := "eaf619bca0430f709924d2382f1e850db0e1c82b9f3d1e2c49c23158fcb37dfb", func := "porringer/porringerlaw11.DrossNeeded", spec := "drossNeeded", unfollowed := true, recurses := true, plainKeys := false, apart := false }
def DrossNeededSaid : Prop := drossNeededRow.holds Try.pinned (OpenSpec.ofChange drossNeededSpec)

/-- ITS FALSE NEIGHBOUR: 'it returns false'. Refute it at one input. -/
def drossNeededWrong : ChangeSpec := { name := "drossNeeded", fn := fun _ => fun
  | [d1, d2, d3, d4] => { results := [.lit (.bool false)], args := [d1, d2, d3, d4] }
  | _ => none }
def DrossNeededWrongFalsely : Prop := drossNeededRow.holds Try.pinned (OpenSpec.ofChange drossNeededWrong)

/-- 'porringerlaw11.DrossHeld': WHATEVER THE INPUT: true; the input reads as it did. -/
def drossHeldSpec : ChangeSpec := { name := "drossHeld", fn := fun _ => fun
  | [d1, d2, d3, d4, d5, d6] => { results := [.lit (.bool true)], args := [d1, d2, d3, d4, d5, d6] }
  | _ => none }
def drossHeldRow : OpenClaim := { program := "ytdcglphekafpdaa", sum := "eaf619bca0430f709924d2382f1e850db0e1c82b9f3d1e2c49c23158fcb37dfb", func := "porringer/porringerlaw11.DrossHeld", spec := "drossHeld", unfollowed := true, recurses := true, plainKeys := false, apart := false }
def DrossHeldSaid : Prop := drossHeldRow.holds Try.pinned (OpenSpec.ofChange drossHeldSpec)

/-- ITS FALSE NEIGHBOUR: 'it returns false'. Refute it at one input. -/
def drossHeldWrong : ChangeSpec := { name := "drossHeld", fn := fun _ => fun
  | [d1, d2, d3, d4, d5, d6] => { results := [.lit (.bool false)], args := [d1, d2, d3, d4, d5, d6] }
  | _ => none }
def DrossHeldWrongFalsely : Prop := drossHeldRow.holds Try.pinned (OpenSpec.ofChange drossHeldWrong)

/-- 'porringerlaw11.DrossWrong': WHATEVER THE INPUT: true; the input reads as it did. -/
def drossWrongSpec : ChangeSpec := { name := "drossWrong", fn := fun _ => fun
  | [d1, d2, d3, d4] => { results := [.lit (.bool true)], args := [d1, d2, d3, d4] }
  | _ => none }
def drossWrongRow : OpenClaim := { program := "ytdcglphekafpdaa", sum := "eaf619bca0430f709924d2382f1e850db0e1c82b9f3d1e2c49c23158fcb37dfb", func := "porringer/porringerlaw11.DrossWrong", spec := "drossWrong", unfollowed := true, recurses := true, plainKeys := false, apart := false }
def DrossWrongSaid : Prop := drossWrongRow.holds Try.pinned (OpenSpec.ofChange drossWrongSpec)

/-- ITS FALSE NEIGHBOUR: 'it returns false'. Refute it at one input. -/
def drossWrongWrong : ChangeSpec := { name := "drossWrong", fn := fun _ => fun
  | [d1, d2, d3, d4] => { results := [.lit (.bool false)], args := [d1, d2, d3, d4] }
  | _ => none }
def DrossWrongWrongFalsely : Prop := drossWrongRow.holds Try.pinned (OpenSpec.ofChange drossWrongWrong)

/-- 'porringerlaw11.DrossMelts': WHATEVER THE INPUT: true; the input reads as it did. -/
def drossMeltsSpec : ChangeSpec := { name := "drossMelts", fn := fun _ => fun
  | [d1, d2, d3, d4] => { results := [.lit (.bool true)], args := [d1, d2, d3, d4] }
  | _ => none }
def drossMeltsRow : OpenClaim := { program := "ytdcglphekafpdaa", sum := "eaf619bca0430f709924d2382f1e850db0e1c82b9f3d1e2c49c23158fcb37dfb", func := "porringer/porringerlaw11.DrossMelts", spec := "drossMelts", unfollowed := true, recurses := true, plainKeys := false, apart := false }
def DrossMeltsSaid : Prop := drossMeltsRow.holds Try.pinned (OpenSpec.ofChange drossMeltsSpec)

/-- ITS FALSE NEIGHBOUR: 'it returns false'. Refute it at one input. -/
def drossMeltsWrong : ChangeSpec := { name := "drossMelts", fn := fun _ => fun
  | [d1, d2, d3, d4] => { results := [.lit (.bool false)], args := [d1, d2, d3, d4] }
  | _ => none }
def DrossMeltsWrongFalsely : Prop := drossMeltsRow.holds Try.pinned (OpenSpec.ofChange drossMeltsWrong)

/-- 'porringerlaw11.DrossShared': WHATEVER THE INPUT: true; the input reads as it did. -/
def drossSharedSpec : ChangeSpec := { name := "drossShared", fn := fun _ => fun
  | [d1, d2, d3, d4] => { results := [.lit (.bool true)], args := [d1, d2, d3, d4] }
  | _ => none }
def drossSharedRow : OpenClaim := { program := "ytdcglphekafpdaa", sum := "eaf619bca0430f709924d2382f1e850db0e1c82b9f3d1e2c49c23158fcb37dfb", func := "porringer/porringerlaw11.DrossShared", spec := "drossShared", unfollowed := true, recurses := true, plainKeys := false, apart := false }
def DrossSharedSaid : Prop := drossSharedRow.holds Try.pinned (OpenSpec.ofChange drossSharedSpec)

/-- ITS FALSE NEIGHBOUR: 'it returns false'. Refute it at one input. -/
def drossSharedWrong : ChangeSpec := { name := "drossShared", fn := fun _ => fun
  | [d1, d2, d3, d4] => { results := [.lit (.bool false)], args := [d1, d2, d3, d4] }
  | _ => none }
def DrossSharedWrongFalsely : Prop := drossSharedRow.holds Try.pinned (OpenSpec.ofChange drossSharedWrong)

/-- 'porringerlaw11.DrossBetter': WHATEVER THE INPUT: true; the input reads as it did. -/
def drossBetterSpec : ChangeSpec := { name := "drossBetter", fn := fun _ => fun
  | [d1, d2, d3, d4, d5, d6] => { results := [.lit (.bool true)], args := [d1, d2, d3, d4, d5, d6] }
  | _ => none }
def drossBetterRow : OpenClaim := { program := "ytdcglphekafpdaa", sum := "eaf619bca0430f709924d2382f1e850db0e1c82b9f3d1e2c49c23158fcb37dfb", func := "porringer/porringerlaw11.DrossBetter", spec := "drossBetter", unfollowed := true, recurses := true, plainKeys := false, apart := false }
def DrossBetterSaid : Prop := drossBetterRow.holds Try.pinned (OpenSpec.ofChange drossBetterSpec)

/-- ITS FALSE NEIGHBOUR: 'it returns false'. Refute it at one input. -/
def drossBetterWrong : ChangeSpec := { name := "drossBetter", fn := fun _ => fun
  | [d1, d2, d3, d4, d5, d6] => { results := [.lit (.bool false)], args := [d1, d2, d3, d4, d5, d6] }
  | _ => none }
def DrossBetterWrongFalsely : Prop := drossBetterRow.holds Try.pinned (OpenSpec.ofChange drossBetterWrong)

/-- 'porringerlaw11.DrossParted': WHATEVER THE INPUT: true; the input reads as it did. -/
def drossPartedSpec : ChangeSpec := { name := "drossParted", fn := fun _ => fun
  | [d1, d2, d3] => { results := [.lit (.bool true)], args := [d1, d2, d3] }
  | _ => none }
def drossPartedRow : OpenClaim := { program := "ytdcglphekafpdaa", sum := "eaf619bca0430f709924d2382f1e850db0e1c82b9f3d1e2c49c23158fcb37dfb", func := "porringer/porringerlaw11.DrossParted", spec := "drossParted", unfollowed := true, recurses := true, plainKeys := false, apart := false }
def DrossPartedSaid : Prop := drossPartedRow.holds Try.pinned (OpenSpec.ofChange drossPartedSpec)

/-- ITS FALSE NEIGHBOUR: 'it returns false'. Refute it at one input. -/
def drossPartedWrong : ChangeSpec := { name := "drossParted", fn := fun _ => fun
  | [d1, d2, d3] => { results := [.lit (.bool false)], args := [d1, d2, d3] }
  | _ => none }
def DrossPartedWrongFalsely : Prop := drossPartedRow.holds Try.pinned (OpenSpec.ofChange drossPartedWrong)

/-- 'porringerlaw11.DrossKnown': WHATEVER THE INPUT: true; the input reads as it did. -/
def drossKnownSpec : ChangeSpec := { name := "drossKnown", fn := fun _ => fun
  | [] => { results := [.lit (.bool true)], args := [] }
  | _ => none }
def drossKnownRow : OpenClaim := { program := "ytdcglphekafpdaa", sum := "eaf619bca0430f709924d2382f1e850db0e1c82b9f3d1e2c49c23158fcb37dfb", func := "porringer/porringerlaw11.DrossKnown", spec := "drossKnown", unfollowed := true, recurses := true, plainKeys := false, apart := false }
def DrossKnownSaid : Prop := drossKnownRow.holds Try.pinned (OpenSpec.ofChange drossKnownSpec)

/-- ITS FALSE NEIGHBOUR: 'it returns false'. Refute it at one input. -/
def drossKnownWrong : ChangeSpec := { name := "drossKnown", fn := fun _ => fun
  | [] => { results := [.lit (.bool false)], args := [] }
  | _ => none }
def DrossKnownWrongFalsely : Prop := drossKnownRow.holds Try.pinned (OpenSpec.ofChange drossKnownWrong)

/- THE SECOND FORM. 'bulk': how many values and letters a reading holds, each counted each time it is reached (what is shared counts as often as it is met; a slice's spare places count too). A statement '..UptoSaid' is the law's where the arguments, and the package variables that the reading takes, are together of bulk at most 1048576: NARROWER than '..Said'. Prove '..Said' where nothing that the law and all that it calls make is longer than what came in: it says more and counts as full. Else prove '..UptoSaid'. A law counts once. -/
mutual
def uptoBulk {H : Type} : DataW H → Nat
  | .lit (.string bytes) => bytes.length + 1
  | .lit _ => 1
  | .nil => 1
  | .ptr d => uptoBulk d + 1
  | .slice elems spare => uptoBulkAll elems + uptoBulkAll spare + 1
  | .agg parts => uptoBulkAll parts + 1
  | .iface _ d => uptoBulk d + 1
  | .map entries => uptoBulkEntries entries + 1
  | .held _ => 1
def uptoBulkAll {H : Type} : List (DataW H) → Nat
  | [] => 0
  | d :: r => uptoBulk d + uptoBulkAll r
def uptoBulkEntries {H : Type} : List (Lit × DataW H) → Nat
  | [] => 0
  | x :: r => uptoBulkEntry x + uptoBulkEntries r
def uptoBulkEntry {H : Type} : Lit × DataW H → Nat
  | (.string bytes, d) => bytes.length + uptoBulk d + 1
  | (_, d) => uptoBulk d + 1
 end
def uptoSmall : (H : Type) → List (DataW H) → Bool := fun _ ds => decide (uptoBulkAll ds ≤ 1048576)
def OpenSpec.upto (s : _root_.Go.ChangeSpec) : _root_.Go.OpenSpec := { _root_.Go.OpenSpec.ofChange s with cond := some uptoSmall }

/-- 'porringerlaw11.DrossRows', WHERE WHAT IT READS IS OF BULK AT MOST 1048576: true; the input reads as it did. -/
def drossRowsUptoRow : OpenClaim := { program := "ytdcglphekafpdaa", sum := "eaf619bca0430f709924d2382f1e850db0e1c82b9f3d1e2c49c23158fcb37dfb", func := "porringer/porringerlaw11.DrossRows", spec := "drossRows", unfollowed := true, recurses := true, plainKeys := false, apart := false, narrowed := true }
def DrossRowsUptoSaid : Prop := drossRowsUptoRow.holds Try.pinned (OpenSpec.upto drossRowsSpec)

/-- 'porringerlaw11.DrossTruths', WHERE WHAT IT READS IS OF BULK AT MOST 1048576: true; the input reads as it did. -/
def drossTruthsUptoRow : OpenClaim := { program := "ytdcglphekafpdaa", sum := "eaf619bca0430f709924d2382f1e850db0e1c82b9f3d1e2c49c23158fcb37dfb", func := "porringer/porringerlaw11.DrossTruths", spec := "drossTruths", unfollowed := true, recurses := true, plainKeys := false, apart := false, narrowed := true }
def DrossTruthsUptoSaid : Prop := drossTruthsUptoRow.holds Try.pinned (OpenSpec.upto drossTruthsSpec)

/-- 'porringerlaw11.DrossClashes', WHERE WHAT IT READS IS OF BULK AT MOST 1048576: true; the input reads as it did. -/
def drossClashesUptoRow : OpenClaim := { program := "ytdcglphekafpdaa", sum := "eaf619bca0430f709924d2382f1e850db0e1c82b9f3d1e2c49c23158fcb37dfb", func := "porringer/porringerlaw11.DrossClashes", spec := "drossClashes", unfollowed := true, recurses := true, plainKeys := false, apart := false, narrowed := true }
def DrossClashesUptoSaid : Prop := drossClashesUptoRow.holds Try.pinned (OpenSpec.upto drossClashesSpec)

/-- 'porringerlaw11.DrossWrongs', WHERE WHAT IT READS IS OF BULK AT MOST 1048576: true; the input reads as it did. -/
def drossWrongsUptoRow : OpenClaim := { program := "ytdcglphekafpdaa", sum := "eaf619bca0430f709924d2382f1e850db0e1c82b9f3d1e2c49c23158fcb37dfb", func := "porringer/porringerlaw11.DrossWrongs", spec := "drossWrongs", unfollowed := true, recurses := true, plainKeys := false, apart := false, narrowed := true }
def DrossWrongsUptoSaid : Prop := drossWrongsUptoRow.holds Try.pinned (OpenSpec.upto drossWrongsSpec)

/-- 'porringerlaw11.DrossEither', WHERE WHAT IT READS IS OF BULK AT MOST 1048576: true; the input reads as it did. -/
def drossEitherUptoRow : OpenClaim := { program := "ytdcglphekafpdaa", sum := "eaf619bca0430f709924d2382f1e850db0e1c82b9f3d1e2c49c23158fcb37dfb", func := "porringer/porringerlaw11.DrossEither", spec := "drossEither", unfollowed := true, recurses := true, plainKeys := false, apart := false, narrowed := true }
def DrossEitherUptoSaid : Prop := drossEitherUptoRow.holds Try.pinned (OpenSpec.upto drossEitherSpec)

/-- 'porringerlaw11.DrossLeft', WHERE WHAT IT READS IS OF BULK AT MOST 1048576: true; the input reads as it did. -/
def drossLeftUptoRow : OpenClaim := { program := "ytdcglphekafpdaa", sum := "eaf619bca0430f709924d2382f1e850db0e1c82b9f3d1e2c49c23158fcb37dfb", func := "porringer/porringerlaw11.DrossLeft", spec := "drossLeft", unfollowed := true, recurses := true, plainKeys := false, apart := false, narrowed := true }
def DrossLeftUptoSaid : Prop := drossLeftUptoRow.holds Try.pinned (OpenSpec.upto drossLeftSpec)

/-- 'porringerlaw11.DrossReached', WHERE WHAT IT READS IS OF BULK AT MOST 1048576: true; the input reads as it did. -/
def drossReachedUptoRow : OpenClaim := { program := "ytdcglphekafpdaa", sum := "eaf619bca0430f709924d2382f1e850db0e1c82b9f3d1e2c49c23158fcb37dfb", func := "porringer/porringerlaw11.DrossReached", spec := "drossReached", unfollowed := true, recurses := true, plainKeys := false, apart := false, narrowed := true }
def DrossReachedUptoSaid : Prop := drossReachedUptoRow.holds Try.pinned (OpenSpec.upto drossReachedSpec)

/-- 'porringerlaw11.DrossNeeded', WHERE WHAT IT READS IS OF BULK AT MOST 1048576: true; the input reads as it did. -/
def drossNeededUptoRow : OpenClaim := { program := "ytdcglphekafpdaa", sum := "eaf619bca0430f709924d2382f1e850db0e1c82b9f3d1e2c49c23158fcb37dfb", func := "porringer/porringerlaw11.DrossNeeded", spec := "drossNeeded", unfollowed := true, recurses := true, plainKeys := false, apart := false, narrowed := true }
def DrossNeededUptoSaid : Prop := drossNeededUptoRow.holds Try.pinned (OpenSpec.upto drossNeededSpec)

/-- 'porringerlaw11.DrossHeld', WHERE WHAT IT READS IS OF BULK AT MOST 1048576: true; the input reads as it did. -/
def drossHeldUptoRow : OpenClaim := { program := "ytdcglphekafpdaa", sum := "eaf619bca0430f709924d2382f1e850db0e1c82b9f3d1e2c49c23158fcb37dfb", func := "porringer/porringerlaw11.DrossHeld", spec := "drossHeld", unfollowed := true, recurses := true, plainKeys := false, apart := false, narrowed := true }
def DrossHeldUptoSaid : Prop := drossHeldUptoRow.holds Try.pinned (OpenSpec.upto drossHeldSpec)

/-- 'porringerlaw11.DrossWrong', WHERE WHAT IT READS IS OF BULK AT MOST 1048576: true; the input reads as it did. -/
def drossWrongUptoRow : OpenClaim := { program := "ytdcglphekafpdaa", sum := "eaf619bca0430f709924d2382f1e850db0e1c82b9f3d1e2c49c23158fcb37dfb", func := "porringer/porringerlaw11.DrossWrong", spec := "drossWrong", unfollowed := true, recurses := true, plainKeys := false, apart := false, narrowed := true }
def DrossWrongUptoSaid : Prop := drossWrongUptoRow.holds Try.pinned (OpenSpec.upto drossWrongSpec)

/-- 'porringerlaw11.DrossMelts', WHERE WHAT IT READS IS OF BULK AT MOST 1048576: true; the input reads as it did. -/
def drossMeltsUptoRow : OpenClaim := { program := "ytdcglphekafpdaa", sum := "eaf619bca0430f709924d2382f1e850db0e1c82b9f3d1e2c49c23158fcb37dfb", func := "porringer/porringerlaw11.DrossMelts", spec := "drossMelts", unfollowed := true, recurses := true, plainKeys := false, apart := false, narrowed := true }
def DrossMeltsUptoSaid : Prop := drossMeltsUptoRow.holds Try.pinned (OpenSpec.upto drossMeltsSpec)

/-- 'porringerlaw11.DrossShared', WHERE WHAT IT READS IS OF BULK AT MOST 1048576: true; the input reads as it did. -/
def drossSharedUptoRow : OpenClaim := { program := "ytdcglphekafpdaa", sum := "eaf619bca0430f709924d2382f1e850db0e1c82b9f3d1e2c49c23158fcb37dfb", func := "porringer/porringerlaw11.DrossShared", spec := "drossShared", unfollowed := true, recurses := true, plainKeys := false, apart := false, narrowed := true }
def DrossSharedUptoSaid : Prop := drossSharedUptoRow.holds Try.pinned (OpenSpec.upto drossSharedSpec)

/-- 'porringerlaw11.DrossBetter', WHERE WHAT IT READS IS OF BULK AT MOST 1048576: true; the input reads as it did. -/
def drossBetterUptoRow : OpenClaim := { program := "ytdcglphekafpdaa", sum := "eaf619bca0430f709924d2382f1e850db0e1c82b9f3d1e2c49c23158fcb37dfb", func := "porringer/porringerlaw11.DrossBetter", spec := "drossBetter", unfollowed := true, recurses := true, plainKeys := false, apart := false, narrowed := true }
def DrossBetterUptoSaid : Prop := drossBetterUptoRow.holds Try.pinned (OpenSpec.upto drossBetterSpec)

/-- 'porringerlaw11.DrossParted', WHERE WHAT IT READS IS OF BULK AT MOST 1048576: true; the input reads as it did. -/
def drossPartedUptoRow : OpenClaim := { program := "ytdcglphekafpdaa", sum := "eaf619bca0430f709924d2382f1e850db0e1c82b9f3d1e2c49c23158fcb37dfb", func := "porringer/porringerlaw11.DrossParted", spec := "drossParted", unfollowed := true, recurses := true, plainKeys := false, apart := false, narrowed := true }
def DrossPartedUptoSaid : Prop := drossPartedUptoRow.holds Try.pinned (OpenSpec.upto drossPartedSpec)

/-- 'porringerlaw11.DrossKnown', WHERE WHAT IT READS IS OF BULK AT MOST 1048576: true; the input reads as it did. -/
def drossKnownUptoRow : OpenClaim := { program := "ytdcglphekafpdaa", sum := "eaf619bca0430f709924d2382f1e850db0e1c82b9f3d1e2c49c23158fcb37dfb", func := "porringer/porringerlaw11.DrossKnown", spec := "drossKnown", unfollowed := true, recurses := true, plainKeys := false, apart := false, narrowed := true }
def DrossKnownUptoSaid : Prop := drossKnownUptoRow.holds Try.pinned (OpenSpec.upto drossKnownSpec)

end Rows
end Go.Proofs.Ytdcglphekafpdaa
