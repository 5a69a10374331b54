/-
  No cell of these rows narrows 'for every input' (looked for: loops, veiled, ifaces, maps, wideKeys, modest, calm, conditions, laid).
  DERIVED. THE GIVEN ROWS OF THIS SEAT. 14 by the template 'for every input the law returns true; each argument reads behind the call as it read before'; 0 by the template 'total and deterministic' (their statements: YtolghmhodaphfaaTotals.lean).
  GIVEN WITH THE SEED: the statements are not yours to turn. If you find one false, say at which input.
  Laid BY PROGRAM, IN A SANDBOX (cutbox-rows.mjs): the forced cells as the released guide's own fill.sh prints them over the translation d8200a1b37bd6ae8… (all of the seat's roots in one cut). By AI agents, Wed Nov 11 2026. No macro, syntax, notation, axiom, sorry.
-/
import Derived.Test.YtolghmhodaphfaaChecked
import GoSem.Claim
import GoSem.ClaimJoined
import GoSem.ClaimMapViews
import Derived.JoinedTies
import Derived.KernelRfl
namespace Go.Proofs.Ytolghmhodaphfaa
/- THE CELL 'sum', in the pinned program and in every row, IS THE sha256 OF THE DUMP (.gsa) THAT YtolghmhodaphfaaProg.lean LOADS. Nothing in Lean hashes anything: it is a label: what it is worth is what the hold of that sum in a sandbox is worth. -/
noncomputable def Try.pinned : Pinned := { name := "ytolghmhodaphfaa", sum := "d8200a1b37bd6ae87e4577343da0354f064fc68fe426699e9e1070d06ac6b125", checked := Try.checked }
namespace Rows
def none {H : Type} : Left H := { results := [], args := [] }

/-- 'porringerlaw10.StoneSets': WHATEVER THE INPUT: true; the input reads as it did. -/
def stoneSetsSpec : ChangeSpec := { name := "stoneSets", fn := fun _ => fun
  | [d1, d2, d3] => { results := [.lit (.bool true)], args := [d1, d2, d3] }
  | _ => none }
def stoneSetsRow : OpenClaim := { program := "ytolghmhodaphfaa", sum := "d8200a1b37bd6ae87e4577343da0354f064fc68fe426699e9e1070d06ac6b125", func := "porringer/porringerlaw10.StoneSets", spec := "stoneSets", unfollowed := true, recurses := true, plainKeys := false, apart := false }
def StoneSetsSaid : Prop := stoneSetsRow.holds Try.pinned (OpenSpec.ofChange stoneSetsSpec)

/-- ITS FALSE NEIGHBOUR: 'it returns false'. Refute it at one input. -/
def stoneSetsWrong : ChangeSpec := { name := "stoneSets", fn := fun _ => fun
  | [d1, d2, d3] => { results := [.lit (.bool false)], args := [d1, d2, d3] }
  | _ => none }
def StoneSetsWrongFalsely : Prop := stoneSetsRow.holds Try.pinned (OpenSpec.ofChange stoneSetsWrong)

/-- 'porringerlaw10.StoneWeighs': WHATEVER THE INPUT: true; the input reads as it did. -/
def stoneWeighsSpec : ChangeSpec := { name := "stoneWeighs", fn := fun _ => fun
  | [d1, d2] => { results := [.lit (.bool true)], args := [d1, d2] }
  | _ => none }
def stoneWeighsRow : OpenClaim := { program := "ytolghmhodaphfaa", sum := "d8200a1b37bd6ae87e4577343da0354f064fc68fe426699e9e1070d06ac6b125", func := "porringer/porringerlaw10.StoneWeighs", spec := "stoneWeighs", unfollowed := true, recurses := true, plainKeys := false, apart := false }
def StoneWeighsSaid : Prop := stoneWeighsRow.holds Try.pinned (OpenSpec.ofChange stoneWeighsSpec)

/-- ITS FALSE NEIGHBOUR: 'it returns false'. Refute it at one input. -/
def stoneWeighsWrong : ChangeSpec := { name := "stoneWeighs", fn := fun _ => fun
  | [d1, d2] => { results := [.lit (.bool false)], args := [d1, d2] }
  | _ => none }
def StoneWeighsWrongFalsely : Prop := stoneWeighsRow.holds Try.pinned (OpenSpec.ofChange stoneWeighsWrong)

/-- 'porringerlaw10.StoneLays': WHATEVER THE INPUT: true; the input reads as it did. -/
def stoneLaysSpec : ChangeSpec := { name := "stoneLays", fn := fun _ => fun
  | [d1, d2, d3] => { results := [.lit (.bool true)], args := [d1, d2, d3] }
  | _ => none }
def stoneLaysRow : OpenClaim := { program := "ytolghmhodaphfaa", sum := "d8200a1b37bd6ae87e4577343da0354f064fc68fe426699e9e1070d06ac6b125", func := "porringer/porringerlaw10.StoneLays", spec := "stoneLays", unfollowed := true, recurses := true, plainKeys := false, apart := false }
def StoneLaysSaid : Prop := stoneLaysRow.holds Try.pinned (OpenSpec.ofChange stoneLaysSpec)

/-- ITS FALSE NEIGHBOUR: 'it returns false'. Refute it at one input. -/
def stoneLaysWrong : ChangeSpec := { name := "stoneLays", fn := fun _ => fun
  | [d1, d2, d3] => { results := [.lit (.bool false)], args := [d1, d2, d3] }
  | _ => none }
def StoneLaysWrongFalsely : Prop := stoneLaysRow.holds Try.pinned (OpenSpec.ofChange stoneLaysWrong)

/-- 'porringerlaw10.StonePerfects': WHATEVER THE INPUT: true; the input reads as it did. -/
def stonePerfectsSpec : ChangeSpec := { name := "stonePerfects", fn := fun _ => fun
  | [d1, d2] => { results := [.lit (.bool true)], args := [d1, d2] }
  | _ => none }
def stonePerfectsRow : OpenClaim := { program := "ytolghmhodaphfaa", sum := "d8200a1b37bd6ae87e4577343da0354f064fc68fe426699e9e1070d06ac6b125", func := "porringer/porringerlaw10.StonePerfects", spec := "stonePerfects", unfollowed := true, recurses := true, plainKeys := false, apart := false }
def StonePerfectsSaid : Prop := stonePerfectsRow.holds Try.pinned (OpenSpec.ofChange stonePerfectsSpec)

/-- ITS FALSE NEIGHBOUR: 'it returns false'. Refute it at one input. -/
def stonePerfectsWrong : ChangeSpec := { name := "stonePerfects", fn := fun _ => fun
  | [d1, d2] => { results := [.lit (.bool false)], args := [d1, d2] }
  | _ => none }
def StonePerfectsWrongFalsely : Prop := stonePerfectsRow.holds Try.pinned (OpenSpec.ofChange stonePerfectsWrong)

/-- 'porringerlaw10.StoneCounts': WHATEVER THE INPUT: true; the input reads as it did. -/
def stoneCountsSpec : ChangeSpec := { name := "stoneCounts", fn := fun _ => fun
  | [d1, d2] => { results := [.lit (.bool true)], args := [d1, d2] }
  | _ => none }
def stoneCountsRow : OpenClaim := { program := "ytolghmhodaphfaa", sum := "d8200a1b37bd6ae87e4577343da0354f064fc68fe426699e9e1070d06ac6b125", func := "porringer/porringerlaw10.StoneCounts", spec := "stoneCounts", unfollowed := true, recurses := true, plainKeys := false, apart := false }
def StoneCountsSaid : Prop := stoneCountsRow.holds Try.pinned (OpenSpec.ofChange stoneCountsSpec)

/-- ITS FALSE NEIGHBOUR: 'it returns false'. Refute it at one input. -/
def stoneCountsWrong : ChangeSpec := { name := "stoneCounts", fn := fun _ => fun
  | [d1, d2] => { results := [.lit (.bool false)], args := [d1, d2] }
  | _ => none }
def StoneCountsWrongFalsely : Prop := stoneCountsRow.holds Try.pinned (OpenSpec.ofChange stoneCountsWrong)

/-- 'porringerlaw10.StoneProved': WHATEVER THE INPUT: true; the input reads as it did. -/
def stoneProvedSpec : ChangeSpec := { name := "stoneProved", fn := fun _ => fun
  | [d1, d2, d3, d4] => { results := [.lit (.bool true)], args := [d1, d2, d3, d4] }
  | _ => none }
def stoneProvedRow : OpenClaim := { program := "ytolghmhodaphfaa", sum := "d8200a1b37bd6ae87e4577343da0354f064fc68fe426699e9e1070d06ac6b125", func := "porringer/porringerlaw10.StoneProved", spec := "stoneProved", unfollowed := true, recurses := true, plainKeys := false, apart := false }
def StoneProvedSaid : Prop := stoneProvedRow.holds Try.pinned (OpenSpec.ofChange stoneProvedSpec)

/-- ITS FALSE NEIGHBOUR: 'it returns false'. Refute it at one input. -/
def stoneProvedWrong : ChangeSpec := { name := "stoneProved", fn := fun _ => fun
  | [d1, d2, d3, d4] => { results := [.lit (.bool false)], args := [d1, d2, d3, d4] }
  | _ => none }
def StoneProvedWrongFalsely : Prop := stoneProvedRow.holds Try.pinned (OpenSpec.ofChange stoneProvedWrong)

/-- 'porringerlaw10.StoneSummed': WHATEVER THE INPUT: true; the input reads as it did. -/
def stoneSummedSpec : ChangeSpec := { name := "stoneSummed", fn := fun _ => fun
  | [d1, d2] => { results := [.lit (.bool true)], args := [d1, d2] }
  | _ => none }
def stoneSummedRow : OpenClaim := { program := "ytolghmhodaphfaa", sum := "d8200a1b37bd6ae87e4577343da0354f064fc68fe426699e9e1070d06ac6b125", func := "porringer/porringerlaw10.StoneSummed", spec := "stoneSummed", unfollowed := true, recurses := true, plainKeys := false, apart := false }
def StoneSummedSaid : Prop := stoneSummedRow.holds Try.pinned (OpenSpec.ofChange stoneSummedSpec)

/-- ITS FALSE NEIGHBOUR: 'it returns false'. Refute it at one input. -/
def stoneSummedWrong : ChangeSpec := { name := "stoneSummed", fn := fun _ => fun
  | [d1, d2] => { results := [.lit (.bool false)], args := [d1, d2] }
  | _ => none }
def StoneSummedWrongFalsely : Prop := stoneSummedRow.holds Try.pinned (OpenSpec.ofChange stoneSummedWrong)

/-- 'porringerlaw10.StonePerfect': WHATEVER THE INPUT: true; the input reads as it did. -/
def stonePerfectSpec : ChangeSpec := { name := "stonePerfect", fn := fun _ => fun
  | [d1, d2, d3] => { results := [.lit (.bool true)], args := [d1, d2, d3] }
  | _ => none }
def stonePerfectRow : OpenClaim := { program := "ytolghmhodaphfaa", sum := "d8200a1b37bd6ae87e4577343da0354f064fc68fe426699e9e1070d06ac6b125", func := "porringer/porringerlaw10.StonePerfect", spec := "stonePerfect", unfollowed := true, recurses := true, plainKeys := false, apart := false }
def StonePerfectSaid : Prop := stonePerfectRow.holds Try.pinned (OpenSpec.ofChange stonePerfectSpec)

/-- ITS FALSE NEIGHBOUR: 'it returns false'. Refute it at one input. -/
def stonePerfectWrong : ChangeSpec := { name := "stonePerfect", fn := fun _ => fun
  | [d1, d2, d3] => { results := [.lit (.bool false)], args := [d1, d2, d3] }
  | _ => none }
def StonePerfectWrongFalsely : Prop := stonePerfectRow.holds Try.pinned (OpenSpec.ofChange stonePerfectWrong)

/-- 'porringerlaw10.StoneCounted': WHATEVER THE INPUT: true; the input reads as it did. -/
def stoneCountedSpec : ChangeSpec := { name := "stoneCounted", fn := fun _ => fun
  | [d1, d2] => { results := [.lit (.bool true)], args := [d1, d2] }
  | _ => none }
def stoneCountedRow : OpenClaim := { program := "ytolghmhodaphfaa", sum := "d8200a1b37bd6ae87e4577343da0354f064fc68fe426699e9e1070d06ac6b125", func := "porringer/porringerlaw10.StoneCounted", spec := "stoneCounted", unfollowed := true, recurses := true, plainKeys := false, apart := false }
def StoneCountedSaid : Prop := stoneCountedRow.holds Try.pinned (OpenSpec.ofChange stoneCountedSpec)

/-- ITS FALSE NEIGHBOUR: 'it returns false'. Refute it at one input. -/
def stoneCountedWrong : ChangeSpec := { name := "stoneCounted", fn := fun _ => fun
  | [d1, d2] => { results := [.lit (.bool false)], args := [d1, d2] }
  | _ => none }
def StoneCountedWrongFalsely : Prop := stoneCountedRow.holds Try.pinned (OpenSpec.ofChange stoneCountedWrong)

/-- 'porringerlaw10.StoneFew': WHATEVER THE INPUT: true; the input reads as it did. -/
def stoneFewSpec : ChangeSpec := { name := "stoneFew", fn := fun _ => fun
  | [d1, d2, d3] => { results := [.lit (.bool true)], args := [d1, d2, d3] }
  | _ => none }
def stoneFewRow : OpenClaim := { program := "ytolghmhodaphfaa", sum := "d8200a1b37bd6ae87e4577343da0354f064fc68fe426699e9e1070d06ac6b125", func := "porringer/porringerlaw10.StoneFew", spec := "stoneFew", unfollowed := true, recurses := true, plainKeys := false, apart := false }
def StoneFewSaid : Prop := stoneFewRow.holds Try.pinned (OpenSpec.ofChange stoneFewSpec)

/-- ITS FALSE NEIGHBOUR: 'it returns false'. Refute it at one input. -/
def stoneFewWrong : ChangeSpec := { name := "stoneFew", fn := fun _ => fun
  | [d1, d2, d3] => { results := [.lit (.bool false)], args := [d1, d2, d3] }
  | _ => none }
def StoneFewWrongFalsely : Prop := stoneFewRow.holds Try.pinned (OpenSpec.ofChange stoneFewWrong)

/-- 'porringerlaw10.StoneTimes': WHATEVER THE INPUT: true; the input reads as it did. -/
def stoneTimesSpec : ChangeSpec := { name := "stoneTimes", fn := fun _ => fun
  | [d1, d2, d3, d4] => { results := [.lit (.bool true)], args := [d1, d2, d3, d4] }
  | _ => none }
def stoneTimesRow : OpenClaim := { program := "ytolghmhodaphfaa", sum := "d8200a1b37bd6ae87e4577343da0354f064fc68fe426699e9e1070d06ac6b125", func := "porringer/porringerlaw10.StoneTimes", spec := "stoneTimes", unfollowed := true, recurses := true, plainKeys := false, apart := false }
def StoneTimesSaid : Prop := stoneTimesRow.holds Try.pinned (OpenSpec.ofChange stoneTimesSpec)

/-- ITS FALSE NEIGHBOUR: 'it returns false'. Refute it at one input. -/
def stoneTimesWrong : ChangeSpec := { name := "stoneTimes", fn := fun _ => fun
  | [d1, d2, d3, d4] => { results := [.lit (.bool false)], args := [d1, d2, d3, d4] }
  | _ => none }
def StoneTimesWrongFalsely : Prop := stoneTimesRow.holds Try.pinned (OpenSpec.ofChange stoneTimesWrong)

/-- 'porringerlaw10.StoneMore': WHATEVER THE INPUT: true; the input reads as it did. -/
def stoneMoreSpec : ChangeSpec := { name := "stoneMore", fn := fun _ => fun
  | [d1, d2, d3, d4] => { results := [.lit (.bool true)], args := [d1, d2, d3, d4] }
  | _ => none }
def stoneMoreRow : OpenClaim := { program := "ytolghmhodaphfaa", sum := "d8200a1b37bd6ae87e4577343da0354f064fc68fe426699e9e1070d06ac6b125", func := "porringer/porringerlaw10.StoneMore", spec := "stoneMore", unfollowed := true, recurses := true, plainKeys := false, apart := false }
def StoneMoreSaid : Prop := stoneMoreRow.holds Try.pinned (OpenSpec.ofChange stoneMoreSpec)

/-- ITS FALSE NEIGHBOUR: 'it returns false'. Refute it at one input. -/
def stoneMoreWrong : ChangeSpec := { name := "stoneMore", fn := fun _ => fun
  | [d1, d2, d3, d4] => { results := [.lit (.bool false)], args := [d1, d2, d3, d4] }
  | _ => none }
def StoneMoreWrongFalsely : Prop := stoneMoreRow.holds Try.pinned (OpenSpec.ofChange stoneMoreWrong)

/-- 'porringerlaw10.StoneJoined': WHATEVER THE INPUT: true; the input reads as it did. -/
def stoneJoinedSpec : ChangeSpec := { name := "stoneJoined", fn := fun _ => fun
  | [d1, d2, d3, d4, d5] => { results := [.lit (.bool true)], args := [d1, d2, d3, d4, d5] }
  | _ => none }
def stoneJoinedRow : OpenClaim := { program := "ytolghmhodaphfaa", sum := "d8200a1b37bd6ae87e4577343da0354f064fc68fe426699e9e1070d06ac6b125", func := "porringer/porringerlaw10.StoneJoined", spec := "stoneJoined", unfollowed := true, recurses := true, plainKeys := false, apart := false }
def StoneJoinedSaid : Prop := stoneJoinedRow.holds Try.pinned (OpenSpec.ofChange stoneJoinedSpec)

/-- ITS FALSE NEIGHBOUR: 'it returns false'. Refute it at one input. -/
def stoneJoinedWrong : ChangeSpec := { name := "stoneJoined", fn := fun _ => fun
  | [d1, d2, d3, d4, d5] => { results := [.lit (.bool false)], args := [d1, d2, d3, d4, d5] }
  | _ => none }
def StoneJoinedWrongFalsely : Prop := stoneJoinedRow.holds Try.pinned (OpenSpec.ofChange stoneJoinedWrong)

/-- 'porringerlaw10.StoneKnown': WHATEVER THE INPUT: true; the input reads as it did. -/
def stoneKnownSpec : ChangeSpec := { name := "stoneKnown", fn := fun _ => fun
  | [] => { results := [.lit (.bool true)], args := [] }
  | _ => none }
def stoneKnownRow : OpenClaim := { program := "ytolghmhodaphfaa", sum := "d8200a1b37bd6ae87e4577343da0354f064fc68fe426699e9e1070d06ac6b125", func := "porringer/porringerlaw10.StoneKnown", spec := "stoneKnown", unfollowed := true, recurses := true, plainKeys := false, apart := false }
def StoneKnownSaid : Prop := stoneKnownRow.holds Try.pinned (OpenSpec.ofChange stoneKnownSpec)

/-- ITS FALSE NEIGHBOUR: 'it returns false'. Refute it at one input. -/
def stoneKnownWrong : ChangeSpec := { name := "stoneKnown", fn := fun _ => fun
  | [] => { results := [.lit (.bool false)], args := [] }
  | _ => none }
def StoneKnownWrongFalsely : Prop := stoneKnownRow.holds Try.pinned (OpenSpec.ofChange stoneKnownWrong)

/- THE SECOND FORM. 'bulk': how many values and letters a reading holds, each counted each time it is reached (what is shared counts as often as it is met; a slice's spare places count too). A statement '..UptoSaid' is the law's where the arguments, and the package variables that the reading takes, are together of bulk at most 1048576: NARROWER than '..Said'. Prove '..Said' where nothing that the law and all that it calls make is longer than what came in: it says more and counts as full. Else prove '..UptoSaid'. A law counts once. -/
mutual
def uptoBulk {H : Type} : DataW H → Nat
  | .lit (.string bytes) => bytes.length + 1
  | .lit _ => 1
  | .nil => 1
  | .ptr d => uptoBulk d + 1
  | .slice elems spare => uptoBulkAll elems + uptoBulkAll spare + 1
  | .agg parts => uptoBulkAll parts + 1
  | .iface _ d => uptoBulk d + 1
  | .map entries => uptoBulkEntries entries + 1
  | .held _ => 1
def uptoBulkAll {H : Type} : List (DataW H) → Nat
  | [] => 0
  | d :: r => uptoBulk d + uptoBulkAll r
def uptoBulkEntries {H : Type} : List (Lit × DataW H) → Nat
  | [] => 0
  | x :: r => uptoBulkEntry x + uptoBulkEntries r
def uptoBulkEntry {H : Type} : Lit × DataW H → Nat
  | (.string bytes, d) => bytes.length + uptoBulk d + 1
  | (_, d) => uptoBulk d + 1
 end
def uptoSmall : (H : Type) → List (DataW H) → Bool := fun _ ds => decide (uptoBulkAll ds ≤ 1048576)
def OpenSpec.upto (s : _root_.Go.ChangeSpec) : _root_.Go.OpenSpec := { _root_.Go.OpenSpec.ofChange s with cond := some uptoSmall }

/-- 'porringerlaw10.StoneSets', WHERE WHAT IT READS IS OF BULK AT MOST 1048576: true; the input reads as it did. -/
def stoneSetsUptoRow : OpenClaim := { program := "ytolghmhodaphfaa", sum := "d8200a1b37bd6ae87e4577343da0354f064fc68fe426699e9e1070d06ac6b125", func := "porringer/porringerlaw10.StoneSets", spec := "stoneSets", unfollowed := true, recurses := true, plainKeys := false, apart := false, narrowed := true }
def StoneSetsUptoSaid : Prop := stoneSetsUptoRow.holds Try.pinned (OpenSpec.upto stoneSetsSpec)

/-- 'porringerlaw10.StoneWeighs', WHERE WHAT IT READS IS OF BULK AT MOST 1048576: true; the input reads as it did. -/
def stoneWeighsUptoRow : OpenClaim := { program := "ytolghmhodaphfaa", sum := "d8200a1b37bd6ae87e4577343da0354f064fc68fe426699e9e1070d06ac6b125", func := "porringer/porringerlaw10.StoneWeighs", spec := "stoneWeighs", unfollowed := true, recurses := true, plainKeys := false, apart := false, narrowed := true }
def StoneWeighsUptoSaid : Prop := stoneWeighsUptoRow.holds Try.pinned (OpenSpec.upto stoneWeighsSpec)

/-- 'porringerlaw10.StoneLays', WHERE WHAT IT READS IS OF BULK AT MOST 1048576: true; the input reads as it did. -/
def stoneLaysUptoRow : OpenClaim := { program := "ytolghmhodaphfaa", sum := "d8200a1b37bd6ae87e4577343da0354f064fc68fe426699e9e1070d06ac6b125", func := "porringer/porringerlaw10.StoneLays", spec := "stoneLays", unfollowed := true, recurses := true, plainKeys := false, apart := false, narrowed := true }
def StoneLaysUptoSaid : Prop := stoneLaysUptoRow.holds Try.pinned (OpenSpec.upto stoneLaysSpec)

/-- 'porringerlaw10.StonePerfects', WHERE WHAT IT READS IS OF BULK AT MOST 1048576: true; the input reads as it did. -/
def stonePerfectsUptoRow : OpenClaim := { program := "ytolghmhodaphfaa", sum := "d8200a1b37bd6ae87e4577343da0354f064fc68fe426699e9e1070d06ac6b125", func := "porringer/porringerlaw10.StonePerfects", spec := "stonePerfects", unfollowed := true, recurses := true, plainKeys := false, apart := false, narrowed := true }
def StonePerfectsUptoSaid : Prop := stonePerfectsUptoRow.holds Try.pinned (OpenSpec.upto stonePerfectsSpec)

/-- 'porringerlaw10.StoneCounts', WHERE WHAT IT READS IS OF BULK AT MOST 1048576: true; the input reads as it did. -/
def stoneCountsUptoRow : OpenClaim := { program := "ytolghmhodaphfaa", sum := "d8200a1b37bd6ae87e4577343da0354f064fc68fe426699e9e1070d06ac6b125", func := "porringer/porringerlaw10.StoneCounts", spec := "stoneCounts", unfollowed := true, recurses := true, plainKeys := false, apart := false, narrowed := true }
def StoneCountsUptoSaid : Prop := stoneCountsUptoRow.holds Try.pinned (OpenSpec.upto stoneCountsSpec)

/-- 'porringerlaw10.StoneProved', WHERE WHAT IT READS IS OF BULK AT MOST 1048576: true; the input reads as it did. -/
def stoneProvedUptoRow : OpenClaim := { program := "ytolghmhodaphfaa", sum := "d8200a1b37bd6ae87e4577343da0354f064fc68fe426699e9e1070d06ac6b125", func := "porringer/porringerlaw10.StoneProved", spec := "stoneProved", unfollowed := true, recurses := true, plainKeys := false, apart := false, narrowed := true }
def StoneProvedUptoSaid : Prop := stoneProvedUptoRow.holds Try.pinned (OpenSpec.upto stoneProvedSpec)

/-- 'porringerlaw10.StoneSummed', WHERE WHAT IT READS IS OF BULK AT MOST 1048576: true; the input reads as it did. -/
def stoneSummedUptoRow : OpenClaim := { program := "ytolghmhodaphfaa", sum := "d8200a1b37bd6ae87e4577343da0354f064fc68fe426699e9e1070d06ac6b125", func := "porringer/porringerlaw10.StoneSummed", spec := "stoneSummed", unfollowed := true, recurses := true, plainKeys := false, apart := false, narrowed := true }
def StoneSummedUptoSaid : Prop := stoneSummedUptoRow.holds Try.pinned (OpenSpec.upto stoneSummedSpec)

/-- 'porringerlaw10.StonePerfect', WHERE WHAT IT READS IS OF BULK AT MOST 1048576: true; the input reads as it did. -/
def stonePerfectUptoRow : OpenClaim := { program := "ytolghmhodaphfaa", sum := "d8200a1b37bd6ae87e4577343da0354f064fc68fe426699e9e1070d06ac6b125", func := "porringer/porringerlaw10.StonePerfect", spec := "stonePerfect", unfollowed := true, recurses := true, plainKeys := false, apart := false, narrowed := true }
def StonePerfectUptoSaid : Prop := stonePerfectUptoRow.holds Try.pinned (OpenSpec.upto stonePerfectSpec)

/-- 'porringerlaw10.StoneCounted', WHERE WHAT IT READS IS OF BULK AT MOST 1048576: true; the input reads as it did. -/
def stoneCountedUptoRow : OpenClaim := { program := "ytolghmhodaphfaa", sum := "d8200a1b37bd6ae87e4577343da0354f064fc68fe426699e9e1070d06ac6b125", func := "porringer/porringerlaw10.StoneCounted", spec := "stoneCounted", unfollowed := true, recurses := true, plainKeys := false, apart := false, narrowed := true }
def StoneCountedUptoSaid : Prop := stoneCountedUptoRow.holds Try.pinned (OpenSpec.upto stoneCountedSpec)

/-- 'porringerlaw10.StoneFew', WHERE WHAT IT READS IS OF BULK AT MOST 1048576: true; the input reads as it did. -/
def stoneFewUptoRow : OpenClaim := { program := "ytolghmhodaphfaa", sum := "d8200a1b37bd6ae87e4577343da0354f064fc68fe426699e9e1070d06ac6b125", func := "porringer/porringerlaw10.StoneFew", spec := "stoneFew", unfollowed := true, recurses := true, plainKeys := false, apart := false, narrowed := true }
def StoneFewUptoSaid : Prop := stoneFewUptoRow.holds Try.pinned (OpenSpec.upto stoneFewSpec)

/-- 'porringerlaw10.StoneTimes', WHERE WHAT IT READS IS OF BULK AT MOST 1048576: true; the input reads as it did. -/
def stoneTimesUptoRow : OpenClaim := { program := "ytolghmhodaphfaa", sum := "d8200a1b37bd6ae87e4577343da0354f064fc68fe426699e9e1070d06ac6b125", func := "porringer/porringerlaw10.StoneTimes", spec := "stoneTimes", unfollowed := true, recurses := true, plainKeys := false, apart := false, narrowed := true }
def StoneTimesUptoSaid : Prop := stoneTimesUptoRow.holds Try.pinned (OpenSpec.upto stoneTimesSpec)

/-- 'porringerlaw10.StoneMore', WHERE WHAT IT READS IS OF BULK AT MOST 1048576: true; the input reads as it did. -/
def stoneMoreUptoRow : OpenClaim := { program := "ytolghmhodaphfaa", sum := "d8200a1b37bd6ae87e4577343da0354f064fc68fe426699e9e1070d06ac6b125", func := "porringer/porringerlaw10.StoneMore", spec := "stoneMore", unfollowed := true, recurses := true, plainKeys := false, apart := false, narrowed := true }
def StoneMoreUptoSaid : Prop := stoneMoreUptoRow.holds Try.pinned (OpenSpec.upto stoneMoreSpec)

/-- 'porringerlaw10.StoneJoined', WHERE WHAT IT READS IS OF BULK AT MOST 1048576: true; the input reads as it did. -/
def stoneJoinedUptoRow : OpenClaim := { program := "ytolghmhodaphfaa", sum := "d8200a1b37bd6ae87e4577343da0354f064fc68fe426699e9e1070d06ac6b125", func := "porringer/porringerlaw10.StoneJoined", spec := "stoneJoined", unfollowed := true, recurses := true, plainKeys := false, apart := false, narrowed := true }
def StoneJoinedUptoSaid : Prop := stoneJoinedUptoRow.holds Try.pinned (OpenSpec.upto stoneJoinedSpec)

/-- 'porringerlaw10.StoneKnown', WHERE WHAT IT READS IS OF BULK AT MOST 1048576: true; the input reads as it did. -/
def stoneKnownUptoRow : OpenClaim := { program := "ytolghmhodaphfaa", sum := "d8200a1b37bd6ae87e4577343da0354f064fc68fe426699e9e1070d06ac6b125", func := "porringer/porringerlaw10.StoneKnown", spec := "stoneKnown", unfollowed := true, recurses := true, plainKeys := false, apart := false, narrowed := true }
def StoneKnownUptoSaid : Prop := stoneKnownUptoRow.holds Try.pinned (OpenSpec.upto stoneKnownSpec)

end Rows
end Go.Proofs.Ytolghmhodaphfaa
