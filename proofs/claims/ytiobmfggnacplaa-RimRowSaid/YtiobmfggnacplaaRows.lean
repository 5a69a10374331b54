/-
  No cell of these rows narrows 'for every input' (looked for: loops, veiled, ifaces, maps, wideKeys, modest, calm, conditions, laid).
  DERIVED. THE GIVEN ROWS OF THIS SEAT. 14 by the template 'for every input the law returns true; each argument reads behind the call as it read before'; 0 by the template 'total and deterministic' (their statements: YtiobmfggnacplaaTotals.lean).
  GIVEN WITH THE SEED: the statements are not yours to turn. If you find one false, say at which input.
  Laid BY PROGRAM, IN A SANDBOX (cutbox-rows.mjs): the forced cells as the released guide's own fill.sh prints them over the translation e71991b690fffec1… (all of the seat's roots in one cut). By AI agents, Wed Nov 11 2026. No macro, syntax, notation, axiom, sorry.
-/
import Derived.Test.YtiobmfggnacplaaChecked
import GoSem.Claim
import GoSem.ClaimJoined
import GoSem.ClaimMapViews
import Derived.JoinedTies
import Derived.KernelRfl
namespace Go.Proofs.Ytiobmfggnacplaa
/- THE CELL 'sum', in the pinned program and in every row, IS THE sha256 OF THE DUMP (.gsa) THAT YtiobmfggnacplaaProg.lean LOADS. Nothing in Lean hashes anything: it is a label: what it is worth is what the hold of that sum in a sandbox is worth. -/
noncomputable def Try.pinned : Pinned := { name := "ytiobmfggnacplaa", sum := "e71991b690fffec1b22d6e210b5b5361bbcecaf9fab38065492930312d63eaed", checked := Try.checked }
namespace Rows
def none {H : Type} : Left H := { results := [], args := [] }

/-- 'porringerlaw04.RimReadings': WHATEVER THE INPUT: true; the input reads as it did. -/
def rimReadingsSpec : ChangeSpec := { name := "rimReadings", fn := fun _ => fun
  | [d1, d2, d3] => { results := [.lit (.bool true)], args := [d1, d2, d3] }
  | _ => none }
def rimReadingsRow : OpenClaim := { program := "ytiobmfggnacplaa", sum := "e71991b690fffec1b22d6e210b5b5361bbcecaf9fab38065492930312d63eaed", func := "porringer/porringerlaw04.RimReadings", spec := "rimReadings", unfollowed := true, recurses := true, plainKeys := false, apart := false }
def RimReadingsSaid : Prop := rimReadingsRow.holds Try.pinned (OpenSpec.ofChange rimReadingsSpec)

/-- ITS FALSE NEIGHBOUR: 'it returns false'. Refute it at one input. -/
def rimReadingsWrong : ChangeSpec := { name := "rimReadings", fn := fun _ => fun
  | [d1, d2, d3] => { results := [.lit (.bool false)], args := [d1, d2, d3] }
  | _ => none }
def RimReadingsWrongFalsely : Prop := rimReadingsRow.holds Try.pinned (OpenSpec.ofChange rimReadingsWrong)

/-- 'porringerlaw04.RimShifts': WHATEVER THE INPUT: true; the input reads as it did. -/
def rimShiftsSpec : ChangeSpec := { name := "rimShifts", fn := fun _ => fun
  | [d1, d2, d3, d4] => { results := [.lit (.bool true)], args := [d1, d2, d3, d4] }
  | _ => none }
def rimShiftsRow : OpenClaim := { program := "ytiobmfggnacplaa", sum := "e71991b690fffec1b22d6e210b5b5361bbcecaf9fab38065492930312d63eaed", func := "porringer/porringerlaw04.RimShifts", spec := "rimShifts", unfollowed := true, recurses := true, plainKeys := false, apart := false }
def RimShiftsSaid : Prop := rimShiftsRow.holds Try.pinned (OpenSpec.ofChange rimShiftsSpec)

/-- ITS FALSE NEIGHBOUR: 'it returns false'. Refute it at one input. -/
def rimShiftsWrong : ChangeSpec := { name := "rimShifts", fn := fun _ => fun
  | [d1, d2, d3, d4] => { results := [.lit (.bool false)], args := [d1, d2, d3, d4] }
  | _ => none }
def RimShiftsWrongFalsely : Prop := rimShiftsRow.holds Try.pinned (OpenSpec.ofChange rimShiftsWrong)

/-- 'porringerlaw04.RimWords': WHATEVER THE INPUT: true; the input reads as it did. -/
def rimWordsSpec : ChangeSpec := { name := "rimWords", fn := fun _ => fun
  | [d1, d2, d3] => { results := [.lit (.bool true)], args := [d1, d2, d3] }
  | _ => none }
def rimWordsRow : OpenClaim := { program := "ytiobmfggnacplaa", sum := "e71991b690fffec1b22d6e210b5b5361bbcecaf9fab38065492930312d63eaed", func := "porringer/porringerlaw04.RimWords", spec := "rimWords", unfollowed := true, recurses := true, plainKeys := false, apart := false }
def RimWordsSaid : Prop := rimWordsRow.holds Try.pinned (OpenSpec.ofChange rimWordsSpec)

/-- ITS FALSE NEIGHBOUR: 'it returns false'. Refute it at one input. -/
def rimWordsWrong : ChangeSpec := { name := "rimWords", fn := fun _ => fun
  | [d1, d2, d3] => { results := [.lit (.bool false)], args := [d1, d2, d3] }
  | _ => none }
def RimWordsWrongFalsely : Prop := rimWordsRow.holds Try.pinned (OpenSpec.ofChange rimWordsWrong)

/-- 'porringerlaw04.RimCounts': WHATEVER THE INPUT: true; the input reads as it did. -/
def rimCountsSpec : ChangeSpec := { name := "rimCounts", fn := fun _ => fun
  | [d1, d2] => { results := [.lit (.bool true)], args := [d1, d2] }
  | _ => none }
def rimCountsRow : OpenClaim := { program := "ytiobmfggnacplaa", sum := "e71991b690fffec1b22d6e210b5b5361bbcecaf9fab38065492930312d63eaed", func := "porringer/porringerlaw04.RimCounts", spec := "rimCounts", unfollowed := true, recurses := true, plainKeys := false, apart := false }
def RimCountsSaid : Prop := rimCountsRow.holds Try.pinned (OpenSpec.ofChange rimCountsSpec)

/-- ITS FALSE NEIGHBOUR: 'it returns false'. Refute it at one input. -/
def rimCountsWrong : ChangeSpec := { name := "rimCounts", fn := fun _ => fun
  | [d1, d2] => { results := [.lit (.bool false)], args := [d1, d2] }
  | _ => none }
def RimCountsWrongFalsely : Prop := rimCountsRow.holds Try.pinned (OpenSpec.ofChange rimCountsWrong)

/-- 'porringerlaw04.RimRows': WHATEVER THE INPUT: true; the input reads as it did. -/
def rimRowsSpec : ChangeSpec := { name := "rimRows", fn := fun _ => fun
  | [d1, d2, d3] => { results := [.lit (.bool true)], args := [d1, d2, d3] }
  | _ => none }
def rimRowsRow : OpenClaim := { program := "ytiobmfggnacplaa", sum := "e71991b690fffec1b22d6e210b5b5361bbcecaf9fab38065492930312d63eaed", func := "porringer/porringerlaw04.RimRows", spec := "rimRows", unfollowed := true, recurses := true, plainKeys := false, apart := false }
def RimRowsSaid : Prop := rimRowsRow.holds Try.pinned (OpenSpec.ofChange rimRowsSpec)

/-- ITS FALSE NEIGHBOUR: 'it returns false'. Refute it at one input. -/
def rimRowsWrong : ChangeSpec := { name := "rimRows", fn := fun _ => fun
  | [d1, d2, d3] => { results := [.lit (.bool false)], args := [d1, d2, d3] }
  | _ => none }
def RimRowsWrongFalsely : Prop := rimRowsRow.holds Try.pinned (OpenSpec.ofChange rimRowsWrong)

/-- 'porringerlaw04.RimEither': WHATEVER THE INPUT: true; the input reads as it did. -/
def rimEitherSpec : ChangeSpec := { name := "rimEither", fn := fun _ => fun
  | [d1, d2, d3, d4] => { results := [.lit (.bool true)], args := [d1, d2, d3, d4] }
  | _ => none }
def rimEitherRow : OpenClaim := { program := "ytiobmfggnacplaa", sum := "e71991b690fffec1b22d6e210b5b5361bbcecaf9fab38065492930312d63eaed", func := "porringer/porringerlaw04.RimEither", spec := "rimEither", unfollowed := true, recurses := true, plainKeys := false, apart := false }
def RimEitherSaid : Prop := rimEitherRow.holds Try.pinned (OpenSpec.ofChange rimEitherSpec)

/-- ITS FALSE NEIGHBOUR: 'it returns false'. Refute it at one input. -/
def rimEitherWrong : ChangeSpec := { name := "rimEither", fn := fun _ => fun
  | [d1, d2, d3, d4] => { results := [.lit (.bool false)], args := [d1, d2, d3, d4] }
  | _ => none }
def RimEitherWrongFalsely : Prop := rimEitherRow.holds Try.pinned (OpenSpec.ofChange rimEitherWrong)

/-- 'porringerlaw04.RimPeriod': WHATEVER THE INPUT: true; the input reads as it did. -/
def rimPeriodSpec : ChangeSpec := { name := "rimPeriod", fn := fun _ => fun
  | [d1, d2, d3] => { results := [.lit (.bool true)], args := [d1, d2, d3] }
  | _ => none }
def rimPeriodRow : OpenClaim := { program := "ytiobmfggnacplaa", sum := "e71991b690fffec1b22d6e210b5b5361bbcecaf9fab38065492930312d63eaed", func := "porringer/porringerlaw04.RimPeriod", spec := "rimPeriod", unfollowed := true, recurses := true, plainKeys := false, apart := false }
def RimPeriodSaid : Prop := rimPeriodRow.holds Try.pinned (OpenSpec.ofChange rimPeriodSpec)

/-- ITS FALSE NEIGHBOUR: 'it returns false'. Refute it at one input. -/
def rimPeriodWrong : ChangeSpec := { name := "rimPeriod", fn := fun _ => fun
  | [d1, d2, d3] => { results := [.lit (.bool false)], args := [d1, d2, d3] }
  | _ => none }
def RimPeriodWrongFalsely : Prop := rimPeriodRow.holds Try.pinned (OpenSpec.ofChange rimPeriodWrong)

/-- 'porringerlaw04.RimCut': WHATEVER THE INPUT: true; the input reads as it did. -/
def rimCutSpec : ChangeSpec := { name := "rimCut", fn := fun _ => fun
  | [d1, d2, d3] => { results := [.lit (.bool true)], args := [d1, d2, d3] }
  | _ => none }
def rimCutRow : OpenClaim := { program := "ytiobmfggnacplaa", sum := "e71991b690fffec1b22d6e210b5b5361bbcecaf9fab38065492930312d63eaed", func := "porringer/porringerlaw04.RimCut", spec := "rimCut", unfollowed := true, recurses := true, plainKeys := false, apart := false }
def RimCutSaid : Prop := rimCutRow.holds Try.pinned (OpenSpec.ofChange rimCutSpec)

/-- ITS FALSE NEIGHBOUR: 'it returns false'. Refute it at one input. -/
def rimCutWrong : ChangeSpec := { name := "rimCut", fn := fun _ => fun
  | [d1, d2, d3] => { results := [.lit (.bool false)], args := [d1, d2, d3] }
  | _ => none }
def RimCutWrongFalsely : Prop := rimCutRow.holds Try.pinned (OpenSpec.ofChange rimCutWrong)

/-- 'porringerlaw04.RimCounted': WHATEVER THE INPUT: true; the input reads as it did. -/
def rimCountedSpec : ChangeSpec := { name := "rimCounted", fn := fun _ => fun
  | [d1, d2] => { results := [.lit (.bool true)], args := [d1, d2] }
  | _ => none }
def rimCountedRow : OpenClaim := { program := "ytiobmfggnacplaa", sum := "e71991b690fffec1b22d6e210b5b5361bbcecaf9fab38065492930312d63eaed", func := "porringer/porringerlaw04.RimCounted", spec := "rimCounted", unfollowed := true, recurses := true, plainKeys := false, apart := false }
def RimCountedSaid : Prop := rimCountedRow.holds Try.pinned (OpenSpec.ofChange rimCountedSpec)

/-- ITS FALSE NEIGHBOUR: 'it returns false'. Refute it at one input. -/
def rimCountedWrong : ChangeSpec := { name := "rimCounted", fn := fun _ => fun
  | [d1, d2] => { results := [.lit (.bool false)], args := [d1, d2] }
  | _ => none }
def RimCountedWrongFalsely : Prop := rimCountedRow.holds Try.pinned (OpenSpec.ofChange rimCountedWrong)

/-- 'porringerlaw04.RimAll': WHATEVER THE INPUT: true; the input reads as it did. -/
def rimAllSpec : ChangeSpec := { name := "rimAll", fn := fun _ => fun
  | [d1, d2, d3] => { results := [.lit (.bool true)], args := [d1, d2, d3] }
  | _ => none }
def rimAllRow : OpenClaim := { program := "ytiobmfggnacplaa", sum := "e71991b690fffec1b22d6e210b5b5361bbcecaf9fab38065492930312d63eaed", func := "porringer/porringerlaw04.RimAll", spec := "rimAll", unfollowed := true, recurses := true, plainKeys := false, apart := false }
def RimAllSaid : Prop := rimAllRow.holds Try.pinned (OpenSpec.ofChange rimAllSpec)

/-- ITS FALSE NEIGHBOUR: 'it returns false'. Refute it at one input. -/
def rimAllWrong : ChangeSpec := { name := "rimAll", fn := fun _ => fun
  | [d1, d2, d3] => { results := [.lit (.bool false)], args := [d1, d2, d3] }
  | _ => none }
def RimAllWrongFalsely : Prop := rimAllRow.holds Try.pinned (OpenSpec.ofChange rimAllWrong)

/-- 'porringerlaw04.RimRow': WHATEVER THE INPUT: true; the input reads as it did. -/
def rimRowSpec : ChangeSpec := { name := "rimRow", fn := fun _ => fun
  | [d1, d2, d3, d4, d5] => { results := [.lit (.bool true)], args := [d1, d2, d3, d4, d5] }
  | _ => none }
def rimRowRow : OpenClaim := { program := "ytiobmfggnacplaa", sum := "e71991b690fffec1b22d6e210b5b5361bbcecaf9fab38065492930312d63eaed", func := "porringer/porringerlaw04.RimRow", spec := "rimRow", unfollowed := true, recurses := true, plainKeys := false, apart := false }
def RimRowSaid : Prop := rimRowRow.holds Try.pinned (OpenSpec.ofChange rimRowSpec)

/-- ITS FALSE NEIGHBOUR: 'it returns false'. Refute it at one input. -/
def rimRowWrong : ChangeSpec := { name := "rimRow", fn := fun _ => fun
  | [d1, d2, d3, d4, d5] => { results := [.lit (.bool false)], args := [d1, d2, d3, d4, d5] }
  | _ => none }
def RimRowWrongFalsely : Prop := rimRowRow.holds Try.pinned (OpenSpec.ofChange rimRowWrong)

/-- 'porringerlaw04.RimJoined': WHATEVER THE INPUT: true; the input reads as it did. -/
def rimJoinedSpec : ChangeSpec := { name := "rimJoined", fn := fun _ => fun
  | [d1, d2, d3, d4, d5] => { results := [.lit (.bool true)], args := [d1, d2, d3, d4, d5] }
  | _ => none }
def rimJoinedRow : OpenClaim := { program := "ytiobmfggnacplaa", sum := "e71991b690fffec1b22d6e210b5b5361bbcecaf9fab38065492930312d63eaed", func := "porringer/porringerlaw04.RimJoined", spec := "rimJoined", unfollowed := true, recurses := true, plainKeys := false, apart := false }
def RimJoinedSaid : Prop := rimJoinedRow.holds Try.pinned (OpenSpec.ofChange rimJoinedSpec)

/-- ITS FALSE NEIGHBOUR: 'it returns false'. Refute it at one input. -/
def rimJoinedWrong : ChangeSpec := { name := "rimJoined", fn := fun _ => fun
  | [d1, d2, d3, d4, d5] => { results := [.lit (.bool false)], args := [d1, d2, d3, d4, d5] }
  | _ => none }
def RimJoinedWrongFalsely : Prop := rimJoinedRow.holds Try.pinned (OpenSpec.ofChange rimJoinedWrong)

/-- 'porringerlaw04.RimGreater': WHATEVER THE INPUT: true; the input reads as it did. -/
def rimGreaterSpec : ChangeSpec := { name := "rimGreater", fn := fun _ => fun
  | [d1, d2, d3] => { results := [.lit (.bool true)], args := [d1, d2, d3] }
  | _ => none }
def rimGreaterRow : OpenClaim := { program := "ytiobmfggnacplaa", sum := "e71991b690fffec1b22d6e210b5b5361bbcecaf9fab38065492930312d63eaed", func := "porringer/porringerlaw04.RimGreater", spec := "rimGreater", unfollowed := true, recurses := true, plainKeys := false, apart := false }
def RimGreaterSaid : Prop := rimGreaterRow.holds Try.pinned (OpenSpec.ofChange rimGreaterSpec)

/-- ITS FALSE NEIGHBOUR: 'it returns false'. Refute it at one input. -/
def rimGreaterWrong : ChangeSpec := { name := "rimGreater", fn := fun _ => fun
  | [d1, d2, d3] => { results := [.lit (.bool false)], args := [d1, d2, d3] }
  | _ => none }
def RimGreaterWrongFalsely : Prop := rimGreaterRow.holds Try.pinned (OpenSpec.ofChange rimGreaterWrong)

/-- 'porringerlaw04.RimKnown': WHATEVER THE INPUT: true; the input reads as it did. -/
def rimKnownSpec : ChangeSpec := { name := "rimKnown", fn := fun _ => fun
  | [] => { results := [.lit (.bool true)], args := [] }
  | _ => none }
def rimKnownRow : OpenClaim := { program := "ytiobmfggnacplaa", sum := "e71991b690fffec1b22d6e210b5b5361bbcecaf9fab38065492930312d63eaed", func := "porringer/porringerlaw04.RimKnown", spec := "rimKnown", unfollowed := true, recurses := true, plainKeys := false, apart := false }
def RimKnownSaid : Prop := rimKnownRow.holds Try.pinned (OpenSpec.ofChange rimKnownSpec)

/-- ITS FALSE NEIGHBOUR: 'it returns false'. Refute it at one input. -/
def rimKnownWrong : ChangeSpec := { name := "rimKnown", fn := fun _ => fun
  | [] => { results := [.lit (.bool false)], args := [] }
  | _ => none }
def RimKnownWrongFalsely : Prop := rimKnownRow.holds Try.pinned (OpenSpec.ofChange rimKnownWrong)

/- THE SECOND FORM. 'bulk': how many values and letters a reading holds, each counted each time it is reached (what is shared counts as often as it is met; a slice's spare places count too). A statement '..UptoSaid' is the law's where the arguments, and the package variables that the reading takes, are together of bulk at most 1048576: NARROWER than '..Said'. Prove '..Said' where nothing that the law and all that it calls make is longer than what came in: it says more and counts as full. Else prove '..UptoSaid'. A law counts once. -/
mutual
def uptoBulk {H : Type} : DataW H → Nat
  | .lit (.string bytes) => bytes.length + 1
  | .lit _ => 1
  | .nil => 1
  | .ptr d => uptoBulk d + 1
  | .slice elems spare => uptoBulkAll elems + uptoBulkAll spare + 1
  | .agg parts => uptoBulkAll parts + 1
  | .iface _ d => uptoBulk d + 1
  | .map entries => uptoBulkEntries entries + 1
  | .held _ => 1
def uptoBulkAll {H : Type} : List (DataW H) → Nat
  | [] => 0
  | d :: r => uptoBulk d + uptoBulkAll r
def uptoBulkEntries {H : Type} : List (Lit × DataW H) → Nat
  | [] => 0
  | x :: r => uptoBulkEntry x + uptoBulkEntries r
def uptoBulkEntry {H : Type} : Lit × DataW H → Nat
  | (.string bytes, d) => bytes.length + uptoBulk d + 1
  | (_, d) => uptoBulk d + 1
 end
def uptoSmall : (H : Type) → List (DataW H) → Bool := fun _ ds => decide (uptoBulkAll ds ≤ 1048576)
def OpenSpec.upto (s : _root_.Go.ChangeSpec) : _root_.Go.OpenSpec := { _root_.Go.OpenSpec.ofChange s with cond := some uptoSmall }

/-- 'porringerlaw04.RimReadings', WHERE WHAT IT READS IS OF BULK AT MOST 1048576: true; the input reads as it did. -/
def rimReadingsUptoRow : OpenClaim := { program := "ytiobmfggnacplaa", sum := "e71991b690fffec1b22d6e210b5b5361bbcecaf9fab38065492930312d63eaed", func := "porringer/porringerlaw04.RimReadings", spec := "rimReadings", unfollowed := true, recurses := true, plainKeys := false, apart := false, narrowed := true }
def RimReadingsUptoSaid : Prop := rimReadingsUptoRow.holds Try.pinned (OpenSpec.upto rimReadingsSpec)

/-- 'porringerlaw04.RimShifts', WHERE WHAT IT READS IS OF BULK AT MOST 1048576: true; the input reads as it did. -/
def rimShiftsUptoRow : OpenClaim := { program := "ytiobmfggnacplaa", sum := "e71991b690fffec1b22d6e210b5b5361bbcecaf9fab38065492930312d63eaed", func := "porringer/porringerlaw04.RimShifts", spec := "rimShifts", unfollowed := true, recurses := true, plainKeys := false, apart := false, narrowed := true }
def RimShiftsUptoSaid : Prop := rimShiftsUptoRow.holds Try.pinned (OpenSpec.upto rimShiftsSpec)

/-- 'porringerlaw04.RimWords', WHERE WHAT IT READS IS OF BULK AT MOST 1048576: true; the input reads as it did. -/
def rimWordsUptoRow : OpenClaim := { program := "ytiobmfggnacplaa", sum := "e71991b690fffec1b22d6e210b5b5361bbcecaf9fab38065492930312d63eaed", func := "porringer/porringerlaw04.RimWords", spec := "rimWords", unfollowed := true, recurses := true, plainKeys := false, apart := false, narrowed := true }
def RimWordsUptoSaid : Prop := rimWordsUptoRow.holds Try.pinned (OpenSpec.upto rimWordsSpec)

/-- 'porringerlaw04.RimCounts', WHERE WHAT IT READS IS OF BULK AT MOST 1048576: true; the input reads as it did. -/
def rimCountsUptoRow : OpenClaim := { program := "ytiobmfggnacplaa", sum := "e71991b690fffec1b22d6e210b5b5361bbcecaf9fab38065492930312d63eaed", func := "porringer/porringerlaw04.RimCounts", spec := "rimCounts", unfollowed := true, recurses := true, plainKeys := false, apart := false, narrowed := true }
def RimCountsUptoSaid : Prop := rimCountsUptoRow.holds Try.pinned (OpenSpec.upto rimCountsSpec)

/-- 'porringerlaw04.RimRows', WHERE WHAT IT READS IS OF BULK AT MOST 1048576: true; the input reads as it did. -/
def rimRowsUptoRow : OpenClaim := { program := "ytiobmfggnacplaa", sum := "e71991b690fffec1b22d6e210b5b5361bbcecaf9fab38065492930312d63eaed", func := "porringer/porringerlaw04.RimRows", spec := "rimRows", unfollowed := true, recurses := true, plainKeys := false, apart := false, narrowed := true }
def RimRowsUptoSaid : Prop := rimRowsUptoRow.holds Try.pinned (OpenSpec.upto rimRowsSpec)

/-- 'porringerlaw04.RimEither', WHERE WHAT IT READS IS OF BULK AT MOST 1048576: true; the input reads as it did. -/
def rimEitherUptoRow : OpenClaim := { program := "ytiobmfggnacplaa", sum := "e71991b690fffec1b22d6e210b5b5361bbcecaf9fab38065492930312d63eaed", func := "porringer/porringerlaw04.RimEither", spec := "rimEither", unfollowed := true, recurses := true, plainKeys := false, apart := false, narrowed := true }
def RimEitherUptoSaid : Prop := rimEitherUptoRow.holds Try.pinned (OpenSpec.upto rimEitherSpec)

/-- 'porringerlaw04.RimPeriod', WHERE WHAT IT READS IS OF BULK AT MOST 1048576: true; the input reads as it did. -/
def rimPeriodUptoRow : OpenClaim := { program := "ytiobmfggnacplaa", sum := "e71991b690fffec1b22d6e210b5b5361bbcecaf9fab38065492930312d63eaed", func := "porringer/porringerlaw04.RimPeriod", spec := "rimPeriod", unfollowed := true, recurses := true, plainKeys := false, apart := false, narrowed := true }
def RimPeriodUptoSaid : Prop := rimPeriodUptoRow.holds Try.pinned (OpenSpec.upto rimPeriodSpec)

/-- 'porringerlaw04.RimCut', WHERE WHAT IT READS IS OF BULK AT MOST 1048576: true; the input reads as it did. -/
def rimCutUptoRow : OpenClaim := { program := "ytiobmfggnacplaa", sum := "e71991b690fffec1b22d6e210b5b5361bbcecaf9fab38065492930312d63eaed", func := "porringer/porringerlaw04.RimCut", spec := "rimCut", unfollowed := true, recurses := true, plainKeys := false, apart := false, narrowed := true }
def RimCutUptoSaid : Prop := rimCutUptoRow.holds Try.pinned (OpenSpec.upto rimCutSpec)

/-- 'porringerlaw04.RimCounted', WHERE WHAT IT READS IS OF BULK AT MOST 1048576: true; the input reads as it did. -/
def rimCountedUptoRow : OpenClaim := { program := "ytiobmfggnacplaa", sum := "e71991b690fffec1b22d6e210b5b5361bbcecaf9fab38065492930312d63eaed", func := "porringer/porringerlaw04.RimCounted", spec := "rimCounted", unfollowed := true, recurses := true, plainKeys := false, apart := false, narrowed := true }
def RimCountedUptoSaid : Prop := rimCountedUptoRow.holds Try.pinned (OpenSpec.upto rimCountedSpec)

/-- 'porringerlaw04.RimAll', WHERE WHAT IT READS IS OF BULK AT MOST 1048576: true; the input reads as it did. -/
def rimAllUptoRow : OpenClaim := { program := "ytiobmfggnacplaa", sum := "e71991b690fffec1b22d6e210b5b5361bbcecaf9fab38065492930312d63eaed", func := "porringer/porringerlaw04.RimAll", spec := "rimAll", unfollowed := true, recurses := true, plainKeys := false, apart := false, narrowed := true }
def RimAllUptoSaid : Prop := rimAllUptoRow.holds Try.pinned (OpenSpec.upto rimAllSpec)

/-- 'porringerlaw04.RimRow', WHERE WHAT IT READS IS OF BULK AT MOST 1048576: true; the input reads as it did. -/
def rimRowUptoRow : OpenClaim := { program := "ytiobmfggnacplaa", sum := "e71991b690fffec1b22d6e210b5b5361bbcecaf9fab38065492930312d63eaed", func := "porringer/porringerlaw04.RimRow", spec := "rimRow", unfollowed := true, recurses := true, plainKeys := false, apart := false, narrowed := true }
def RimRowUptoSaid : Prop := rimRowUptoRow.holds Try.pinned (OpenSpec.upto rimRowSpec)

/-- 'porringerlaw04.RimJoined', WHERE WHAT IT READS IS OF BULK AT MOST 1048576: true; the input reads as it did. -/
def rimJoinedUptoRow : OpenClaim := { program := "ytiobmfggnacplaa", sum := "e71991b690fffec1b22d6e210b5b5361bbcecaf9fab38065492930312d63eaed", func := "porringer/porringerlaw04.RimJoined", spec := "rimJoined", unfollowed := true, recurses := true, plainKeys := false, apart := false, narrowed := true }
def RimJoinedUptoSaid : Prop := rimJoinedUptoRow.holds Try.pinned (OpenSpec.upto rimJoinedSpec)

/-- 'porringerlaw04.RimGreater', WHERE WHAT IT READS IS OF BULK AT MOST 1048576: true; the input reads as it did. -/
def rimGreaterUptoRow : OpenClaim := { program := "ytiobmfggnacplaa", sum := "e71991b690fffec1b22d6e210b5b5361bbcecaf9fab38065492930312d63eaed", func := "porringer/porringerlaw04.RimGreater", spec := "rimGreater", unfollowed := true, recurses := true, plainKeys := false, apart := false, narrowed := true }
def RimGreaterUptoSaid : Prop := rimGreaterUptoRow.holds Try.pinned (OpenSpec.upto rimGreaterSpec)

/-- 'porringerlaw04.RimKnown', WHERE WHAT IT READS IS OF BULK AT MOST 1048576: true; the input reads as it did. -/
def rimKnownUptoRow : OpenClaim := { program := "ytiobmfggnacplaa", sum := "e71991b690fffec1b22d6e210b5b5361bbcecaf9fab38065492930312d63eaed", func := "porringer/porringerlaw04.RimKnown", spec := "rimKnown", unfollowed := true, recurses := true, plainKeys := false, apart := false, narrowed := true }
def RimKnownUptoSaid : Prop := rimKnownUptoRow.holds Try.pinned (OpenSpec.upto rimKnownSpec)

end Rows
end Go.Proofs.Ytiobmfggnacplaa
