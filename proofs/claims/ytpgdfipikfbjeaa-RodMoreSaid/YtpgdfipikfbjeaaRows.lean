/-
  No cell of these rows narrows 'for every input' (looked for: loops, veiled, ifaces, maps, wideKeys, modest, calm, conditions, laid).
  DERIVED. THE GIVEN ROWS OF THIS SEAT. 12 by the template 'for every input the law returns true; each argument reads behind the call as it read before'; 0 by the template 'total and deterministic' (their statements: YtpgdfipikfbjeaaTotals.lean).
  GIVEN WITH THE SEED: the statements are not yours to turn. If you find one false, say at which input.
  Laid BY PROGRAM, IN A SANDBOX (cutbox-rows.mjs): the forced cells as the released guide's own fill.sh prints them over the translation 8dedf649eecf964c… (all of the seat's roots in one cut). By AI agents, Wed Nov 11 2026. No macro, syntax, notation, axiom, sorry.
-/
import Derived.Test.YtpgdfipikfbjeaaChecked
import GoSem.Claim
import GoSem.ClaimJoined
import GoSem.ClaimMapViews
import Derived.JoinedTies
import Derived.KernelRfl
namespace Go.Proofs.Ytpgdfipikfbjeaa
/- THE CELL 'sum', in the pinned program and in every row, IS THE sha256 OF THE DUMP (.gsa) THAT YtpgdfipikfbjeaaProg.lean LOADS. Nothing in Lean hashes anything: it is a label: what it is worth is what the hold of that sum in a sandbox is worth. -/
noncomputable def Try.pinned : Pinned := { name := "ytpgdfipikfbjeaa", sum := "8dedf649eecf964c2b5e7d8453bfdba0f493222bfb2914ad11dd7e4c2de3be16", checked := Try.checked }
namespace Rows
def none {H : Type} : Left H := { results := [], args := [] }

/-- 'porringerlaw08.RodTells': WHATEVER THE INPUT: true; the input reads as it did. -/
def rodTellsSpec : ChangeSpec := { name := "rodTells", fn := fun _ => fun
  | [d1, d2, d3] => { results := [.lit (.bool true)], args := [d1, d2, d3] }
  | _ => none }
def rodTellsRow : OpenClaim := { program := "ytpgdfipikfbjeaa", sum := "8dedf649eecf964c2b5e7d8453bfdba0f493222bfb2914ad11dd7e4c2de3be16", func := "porringer/porringerlaw08.RodTells", spec := "rodTells", unfollowed := true, recurses := true, plainKeys := false, apart := false }
def RodTellsSaid : Prop := rodTellsRow.holds Try.pinned (OpenSpec.ofChange rodTellsSpec)

/-- ITS FALSE NEIGHBOUR: 'it returns false'. Refute it at one input. -/
def rodTellsWrong : ChangeSpec := { name := "rodTells", fn := fun _ => fun
  | [d1, d2, d3] => { results := [.lit (.bool false)], args := [d1, d2, d3] }
  | _ => none }
def RodTellsWrongFalsely : Prop := rodTellsRow.holds Try.pinned (OpenSpec.ofChange rodTellsWrong)

/-- 'porringerlaw08.RodPlains': WHATEVER THE INPUT: true; the input reads as it did. -/
def rodPlainsSpec : ChangeSpec := { name := "rodPlains", fn := fun _ => fun
  | [d1, d2, d3] => { results := [.lit (.bool true)], args := [d1, d2, d3] }
  | _ => none }
def rodPlainsRow : OpenClaim := { program := "ytpgdfipikfbjeaa", sum := "8dedf649eecf964c2b5e7d8453bfdba0f493222bfb2914ad11dd7e4c2de3be16", func := "porringer/porringerlaw08.RodPlains", spec := "rodPlains", unfollowed := true, recurses := true, plainKeys := false, apart := false }
def RodPlainsSaid : Prop := rodPlainsRow.holds Try.pinned (OpenSpec.ofChange rodPlainsSpec)

/-- ITS FALSE NEIGHBOUR: 'it returns false'. Refute it at one input. -/
def rodPlainsWrong : ChangeSpec := { name := "rodPlains", fn := fun _ => fun
  | [d1, d2, d3] => { results := [.lit (.bool false)], args := [d1, d2, d3] }
  | _ => none }
def RodPlainsWrongFalsely : Prop := rodPlainsRow.holds Try.pinned (OpenSpec.ofChange rodPlainsWrong)

/-- 'porringerlaw08.RodNeeds': WHATEVER THE INPUT: true; the input reads as it did. -/
def rodNeedsSpec : ChangeSpec := { name := "rodNeeds", fn := fun _ => fun
  | [d1, d2, d3] => { results := [.lit (.bool true)], args := [d1, d2, d3] }
  | _ => none }
def rodNeedsRow : OpenClaim := { program := "ytpgdfipikfbjeaa", sum := "8dedf649eecf964c2b5e7d8453bfdba0f493222bfb2914ad11dd7e4c2de3be16", func := "porringer/porringerlaw08.RodNeeds", spec := "rodNeeds", unfollowed := true, recurses := true, plainKeys := false, apart := false }
def RodNeedsSaid : Prop := rodNeedsRow.holds Try.pinned (OpenSpec.ofChange rodNeedsSpec)

/-- ITS FALSE NEIGHBOUR: 'it returns false'. Refute it at one input. -/
def rodNeedsWrong : ChangeSpec := { name := "rodNeeds", fn := fun _ => fun
  | [d1, d2, d3] => { results := [.lit (.bool false)], args := [d1, d2, d3] }
  | _ => none }
def RodNeedsWrongFalsely : Prop := rodNeedsRow.holds Try.pinned (OpenSpec.ofChange rodNeedsWrong)

/-- 'porringerlaw08.RodEither': WHATEVER THE INPUT: true; the input reads as it did. -/
def rodEitherSpec : ChangeSpec := { name := "rodEither", fn := fun _ => fun
  | [d1, d2, d3, d4] => { results := [.lit (.bool true)], args := [d1, d2, d3, d4] }
  | _ => none }
def rodEitherRow : OpenClaim := { program := "ytpgdfipikfbjeaa", sum := "8dedf649eecf964c2b5e7d8453bfdba0f493222bfb2914ad11dd7e4c2de3be16", func := "porringer/porringerlaw08.RodEither", spec := "rodEither", unfollowed := true, recurses := true, plainKeys := false, apart := false }
def RodEitherSaid : Prop := rodEitherRow.holds Try.pinned (OpenSpec.ofChange rodEitherSpec)

/-- ITS FALSE NEIGHBOUR: 'it returns false'. Refute it at one input. -/
def rodEitherWrong : ChangeSpec := { name := "rodEither", fn := fun _ => fun
  | [d1, d2, d3, d4] => { results := [.lit (.bool false)], args := [d1, d2, d3, d4] }
  | _ => none }
def RodEitherWrongFalsely : Prop := rodEitherRow.holds Try.pinned (OpenSpec.ofChange rodEitherWrong)

/-- 'porringerlaw08.RodPlain': WHATEVER THE INPUT: true; the input reads as it did. -/
def rodPlainSpec : ChangeSpec := { name := "rodPlain", fn := fun _ => fun
  | [d1, d2, d3] => { results := [.lit (.bool true)], args := [d1, d2, d3] }
  | _ => none }
def rodPlainRow : OpenClaim := { program := "ytpgdfipikfbjeaa", sum := "8dedf649eecf964c2b5e7d8453bfdba0f493222bfb2914ad11dd7e4c2de3be16", func := "porringer/porringerlaw08.RodPlain", spec := "rodPlain", unfollowed := true, recurses := true, plainKeys := false, apart := false }
def RodPlainSaid : Prop := rodPlainRow.holds Try.pinned (OpenSpec.ofChange rodPlainSpec)

/-- ITS FALSE NEIGHBOUR: 'it returns false'. Refute it at one input. -/
def rodPlainWrong : ChangeSpec := { name := "rodPlain", fn := fun _ => fun
  | [d1, d2, d3] => { results := [.lit (.bool false)], args := [d1, d2, d3] }
  | _ => none }
def RodPlainWrongFalsely : Prop := rodPlainRow.holds Try.pinned (OpenSpec.ofChange rodPlainWrong)

/-- 'porringerlaw08.RodBound': WHATEVER THE INPUT: true; the input reads as it did. -/
def rodBoundSpec : ChangeSpec := { name := "rodBound", fn := fun _ => fun
  | [d1, d2] => { results := [.lit (.bool true)], args := [d1, d2] }
  | _ => none }
def rodBoundRow : OpenClaim := { program := "ytpgdfipikfbjeaa", sum := "8dedf649eecf964c2b5e7d8453bfdba0f493222bfb2914ad11dd7e4c2de3be16", func := "porringer/porringerlaw08.RodBound", spec := "rodBound", unfollowed := true, recurses := true, plainKeys := false, apart := false }
def RodBoundSaid : Prop := rodBoundRow.holds Try.pinned (OpenSpec.ofChange rodBoundSpec)

/-- ITS FALSE NEIGHBOUR: 'it returns false'. Refute it at one input. -/
def rodBoundWrong : ChangeSpec := { name := "rodBound", fn := fun _ => fun
  | [d1, d2] => { results := [.lit (.bool false)], args := [d1, d2] }
  | _ => none }
def RodBoundWrongFalsely : Prop := rodBoundRow.holds Try.pinned (OpenSpec.ofChange rodBoundWrong)

/-- 'porringerlaw08.RodPlayed': WHATEVER THE INPUT: true; the input reads as it did. -/
def rodPlayedSpec : ChangeSpec := { name := "rodPlayed", fn := fun _ => fun
  | [d1, d2] => { results := [.lit (.bool true)], args := [d1, d2] }
  | _ => none }
def rodPlayedRow : OpenClaim := { program := "ytpgdfipikfbjeaa", sum := "8dedf649eecf964c2b5e7d8453bfdba0f493222bfb2914ad11dd7e4c2de3be16", func := "porringer/porringerlaw08.RodPlayed", spec := "rodPlayed", unfollowed := true, recurses := true, plainKeys := false, apart := false }
def RodPlayedSaid : Prop := rodPlayedRow.holds Try.pinned (OpenSpec.ofChange rodPlayedSpec)

/-- ITS FALSE NEIGHBOUR: 'it returns false'. Refute it at one input. -/
def rodPlayedWrong : ChangeSpec := { name := "rodPlayed", fn := fun _ => fun
  | [d1, d2] => { results := [.lit (.bool false)], args := [d1, d2] }
  | _ => none }
def RodPlayedWrongFalsely : Prop := rodPlayedRow.holds Try.pinned (OpenSpec.ofChange rodPlayedWrong)

/-- 'porringerlaw08.RodMore': WHATEVER THE INPUT: true; the input reads as it did. -/
def rodMoreSpec : ChangeSpec := { name := "rodMore", fn := fun _ => fun
  | [d1, d2, d3, d4] => { results := [.lit (.bool true)], args := [d1, d2, d3, d4] }
  | _ => none }
def rodMoreRow : OpenClaim := { program := "ytpgdfipikfbjeaa", sum := "8dedf649eecf964c2b5e7d8453bfdba0f493222bfb2914ad11dd7e4c2de3be16", func := "porringer/porringerlaw08.RodMore", spec := "rodMore", unfollowed := true, recurses := true, plainKeys := false, apart := false }
def RodMoreSaid : Prop := rodMoreRow.holds Try.pinned (OpenSpec.ofChange rodMoreSpec)

/-- ITS FALSE NEIGHBOUR: 'it returns false'. Refute it at one input. -/
def rodMoreWrong : ChangeSpec := { name := "rodMore", fn := fun _ => fun
  | [d1, d2, d3, d4] => { results := [.lit (.bool false)], args := [d1, d2, d3, d4] }
  | _ => none }
def RodMoreWrongFalsely : Prop := rodMoreRow.holds Try.pinned (OpenSpec.ofChange rodMoreWrong)

/-- 'porringerlaw08.RodTurned': WHATEVER THE INPUT: true; the input reads as it did. -/
def rodTurnedSpec : ChangeSpec := { name := "rodTurned", fn := fun _ => fun
  | [d1, d2, d3, d4, d5] => { results := [.lit (.bool true)], args := [d1, d2, d3, d4, d5] }
  | _ => none }
def rodTurnedRow : OpenClaim := { program := "ytpgdfipikfbjeaa", sum := "8dedf649eecf964c2b5e7d8453bfdba0f493222bfb2914ad11dd7e4c2de3be16", func := "porringer/porringerlaw08.RodTurned", spec := "rodTurned", unfollowed := true, recurses := true, plainKeys := false, apart := false }
def RodTurnedSaid : Prop := rodTurnedRow.holds Try.pinned (OpenSpec.ofChange rodTurnedSpec)

/-- ITS FALSE NEIGHBOUR: 'it returns false'. Refute it at one input. -/
def rodTurnedWrong : ChangeSpec := { name := "rodTurned", fn := fun _ => fun
  | [d1, d2, d3, d4, d5] => { results := [.lit (.bool false)], args := [d1, d2, d3, d4, d5] }
  | _ => none }
def RodTurnedWrongFalsely : Prop := rodTurnedRow.holds Try.pinned (OpenSpec.ofChange rodTurnedWrong)

/-- 'porringerlaw08.RodAlone': WHATEVER THE INPUT: true; the input reads as it did. -/
def rodAloneSpec : ChangeSpec := { name := "rodAlone", fn := fun _ => fun
  | [d1, d2, d3] => { results := [.lit (.bool true)], args := [d1, d2, d3] }
  | _ => none }
def rodAloneRow : OpenClaim := { program := "ytpgdfipikfbjeaa", sum := "8dedf649eecf964c2b5e7d8453bfdba0f493222bfb2914ad11dd7e4c2de3be16", func := "porringer/porringerlaw08.RodAlone", spec := "rodAlone", unfollowed := true, recurses := true, plainKeys := false, apart := false }
def RodAloneSaid : Prop := rodAloneRow.holds Try.pinned (OpenSpec.ofChange rodAloneSpec)

/-- ITS FALSE NEIGHBOUR: 'it returns false'. Refute it at one input. -/
def rodAloneWrong : ChangeSpec := { name := "rodAlone", fn := fun _ => fun
  | [d1, d2, d3] => { results := [.lit (.bool false)], args := [d1, d2, d3] }
  | _ => none }
def RodAloneWrongFalsely : Prop := rodAloneRow.holds Try.pinned (OpenSpec.ofChange rodAloneWrong)

/-- 'porringerlaw08.RodPlans': WHATEVER THE INPUT: true; the input reads as it did. -/
def rodPlansSpec : ChangeSpec := { name := "rodPlans", fn := fun _ => fun
  | [d1, d2, d3] => { results := [.lit (.bool true)], args := [d1, d2, d3] }
  | _ => none }
def rodPlansRow : OpenClaim := { program := "ytpgdfipikfbjeaa", sum := "8dedf649eecf964c2b5e7d8453bfdba0f493222bfb2914ad11dd7e4c2de3be16", func := "porringer/porringerlaw08.RodPlans", spec := "rodPlans", unfollowed := true, recurses := true, plainKeys := false, apart := false }
def RodPlansSaid : Prop := rodPlansRow.holds Try.pinned (OpenSpec.ofChange rodPlansSpec)

/-- ITS FALSE NEIGHBOUR: 'it returns false'. Refute it at one input. -/
def rodPlansWrong : ChangeSpec := { name := "rodPlans", fn := fun _ => fun
  | [d1, d2, d3] => { results := [.lit (.bool false)], args := [d1, d2, d3] }
  | _ => none }
def RodPlansWrongFalsely : Prop := rodPlansRow.holds Try.pinned (OpenSpec.ofChange rodPlansWrong)

/-- 'porringerlaw08.RodKnown': WHATEVER THE INPUT: true; the input reads as it did. -/
def rodKnownSpec : ChangeSpec := { name := "rodKnown", fn := fun _ => fun
  | [] => { results := [.lit (.bool true)], args := [] }
  | _ => none }
def rodKnownRow : OpenClaim := { program := "ytpgdfipikfbjeaa", sum := "8dedf649eecf964c2b5e7d8453bfdba0f493222bfb2914ad11dd7e4c2de3be16", func := "porringer/porringerlaw08.RodKnown", spec := "rodKnown", unfollowed := true, recurses := true, plainKeys := false, apart := false }
def RodKnownSaid : Prop := rodKnownRow.holds Try.pinned (OpenSpec.ofChange rodKnownSpec)

/-- ITS FALSE NEIGHBOUR: 'it returns false'. Refute it at one input. -/
def rodKnownWrong : ChangeSpec := { name := "rodKnown", fn := fun _ => fun
  | [] => { results := [.lit (.bool false)], args := [] }
  | _ => none }
def RodKnownWrongFalsely : Prop := rodKnownRow.holds Try.pinned (OpenSpec.ofChange rodKnownWrong)

/- THE SECOND FORM. 'bulk': how many values and letters a reading holds, each counted each time it is reached (what is shared counts as often as it is met; a slice's spare places count too). A statement '..UptoSaid' is the law's where the arguments, and the package variables that the reading takes, are together of bulk at most 1048576: NARROWER than '..Said'. Prove '..Said' where nothing that the law and all that it calls make is longer than what came in: it says more and counts as full. Else prove '..UptoSaid'. A law counts once. -/
mutual
def uptoBulk {H : Type} : DataW H → Nat
  | .lit (.string bytes) => bytes.length + 1
  | .lit _ => 1
  | .nil => 1
  | .ptr d => uptoBulk d + 1
  | .slice elems spare => uptoBulkAll elems + uptoBulkAll spare + 1
  | .agg parts => uptoBulkAll parts + 1
  | .iface _ d => uptoBulk d + 1
  | .map entries => uptoBulkEntries entries + 1
  | .held _ => 1
def uptoBulkAll {H : Type} : List (DataW H) → Nat
  | [] => 0
  | d :: r => uptoBulk d + uptoBulkAll r
def uptoBulkEntries {H : Type} : List (Lit × DataW H) → Nat
  | [] => 0
  | x :: r => uptoBulkEntry x + uptoBulkEntries r
def uptoBulkEntry {H : Type} : Lit × DataW H → Nat
  | (.string bytes, d) => bytes.length + uptoBulk d + 1
  | (_, d) => uptoBulk d + 1
 end
def uptoSmall : (H : Type) → List (DataW H) → Bool := fun _ ds => decide (uptoBulkAll ds ≤ 1048576)
def OpenSpec.upto (s : _root_.Go.ChangeSpec) : _root_.Go.OpenSpec := { _root_.Go.OpenSpec.ofChange s with cond := some uptoSmall }

/-- 'porringerlaw08.RodTells', WHERE WHAT IT READS IS OF BULK AT MOST 1048576: true; the input reads as it did. -/
def rodTellsUptoRow : OpenClaim := { program := "ytpgdfipikfbjeaa", sum := "8dedf649eecf964c2b5e7d8453bfdba0f493222bfb2914ad11dd7e4c2de3be16", func := "porringer/porringerlaw08.RodTells", spec := "rodTells", unfollowed := true, recurses := true, plainKeys := false, apart := false, narrowed := true }
def RodTellsUptoSaid : Prop := rodTellsUptoRow.holds Try.pinned (OpenSpec.upto rodTellsSpec)

/-- 'porringerlaw08.RodPlains', WHERE WHAT IT READS IS OF BULK AT MOST 1048576: true; the input reads as it did. -/
def rodPlainsUptoRow : OpenClaim := { program := "ytpgdfipikfbjeaa", sum := "8dedf649eecf964c2b5e7d8453bfdba0f493222bfb2914ad11dd7e4c2de3be16", func := "porringer/porringerlaw08.RodPlains", spec := "rodPlains", unfollowed := true, recurses := true, plainKeys := false, apart := false, narrowed := true }
def RodPlainsUptoSaid : Prop := rodPlainsUptoRow.holds Try.pinned (OpenSpec.upto rodPlainsSpec)

/-- 'porringerlaw08.RodNeeds', WHERE WHAT IT READS IS OF BULK AT MOST 1048576: true; the input reads as it did. -/
def rodNeedsUptoRow : OpenClaim := { program := "ytpgdfipikfbjeaa", sum := "8dedf649eecf964c2b5e7d8453bfdba0f493222bfb2914ad11dd7e4c2de3be16", func := "porringer/porringerlaw08.RodNeeds", spec := "rodNeeds", unfollowed := true, recurses := true, plainKeys := false, apart := false, narrowed := true }
def RodNeedsUptoSaid : Prop := rodNeedsUptoRow.holds Try.pinned (OpenSpec.upto rodNeedsSpec)

/-- 'porringerlaw08.RodEither', WHERE WHAT IT READS IS OF BULK AT MOST 1048576: true; the input reads as it did. -/
def rodEitherUptoRow : OpenClaim := { program := "ytpgdfipikfbjeaa", sum := "8dedf649eecf964c2b5e7d8453bfdba0f493222bfb2914ad11dd7e4c2de3be16", func := "porringer/porringerlaw08.RodEither", spec := "rodEither", unfollowed := true, recurses := true, plainKeys := false, apart := false, narrowed := true }
def RodEitherUptoSaid : Prop := rodEitherUptoRow.holds Try.pinned (OpenSpec.upto rodEitherSpec)

/-- 'porringerlaw08.RodPlain', WHERE WHAT IT READS IS OF BULK AT MOST 1048576: true; the input reads as it did. -/
def rodPlainUptoRow : OpenClaim := { program := "ytpgdfipikfbjeaa", sum := "8dedf649eecf964c2b5e7d8453bfdba0f493222bfb2914ad11dd7e4c2de3be16", func := "porringer/porringerlaw08.RodPlain", spec := "rodPlain", unfollowed := true, recurses := true, plainKeys := false, apart := false, narrowed := true }
def RodPlainUptoSaid : Prop := rodPlainUptoRow.holds Try.pinned (OpenSpec.upto rodPlainSpec)

/-- 'porringerlaw08.RodBound', WHERE WHAT IT READS IS OF BULK AT MOST 1048576: true; the input reads as it did. -/
def rodBoundUptoRow : OpenClaim := { program := "ytpgdfipikfbjeaa", sum := "8dedf649eecf964c2b5e7d8453bfdba0f493222bfb2914ad11dd7e4c2de3be16", func := "porringer/porringerlaw08.RodBound", spec := "rodBound", unfollowed := true, recurses := true, plainKeys := false, apart := false, narrowed := true }
def RodBoundUptoSaid : Prop := rodBoundUptoRow.holds Try.pinned (OpenSpec.upto rodBoundSpec)

/-- 'porringerlaw08.RodPlayed', WHERE WHAT IT READS IS OF BULK AT MOST 1048576: true; the input reads as it did. -/
def rodPlayedUptoRow : OpenClaim := { program := "ytpgdfipikfbjeaa", sum := "8dedf649eecf964c2b5e7d8453bfdba0f493222bfb2914ad11dd7e4c2de3be16", func := "porringer/porringerlaw08.RodPlayed", spec := "rodPlayed", unfollowed := true, recurses := true, plainKeys := false, apart := false, narrowed := true }
def RodPlayedUptoSaid : Prop := rodPlayedUptoRow.holds Try.pinned (OpenSpec.upto rodPlayedSpec)

/-- 'porringerlaw08.RodMore', WHERE WHAT IT READS IS OF BULK AT MOST 1048576: true; the input reads as it did. -/
def rodMoreUptoRow : OpenClaim := { program := "ytpgdfipikfbjeaa", sum := "8dedf649eecf964c2b5e7d8453bfdba0f493222bfb2914ad11dd7e4c2de3be16", func := "porringer/porringerlaw08.RodMore", spec := "rodMore", unfollowed := true, recurses := true, plainKeys := false, apart := false, narrowed := true }
def RodMoreUptoSaid : Prop := rodMoreUptoRow.holds Try.pinned (OpenSpec.upto rodMoreSpec)

/-- 'porringerlaw08.RodTurned', WHERE WHAT IT READS IS OF BULK AT MOST 1048576: true; the input reads as it did. -/
def rodTurnedUptoRow : OpenClaim := { program := "ytpgdfipikfbjeaa", sum := "8dedf649eecf964c2b5e7d8453bfdba0f493222bfb2914ad11dd7e4c2de3be16", func := "porringer/porringerlaw08.RodTurned", spec := "rodTurned", unfollowed := true, recurses := true, plainKeys := false, apart := false, narrowed := true }
def RodTurnedUptoSaid : Prop := rodTurnedUptoRow.holds Try.pinned (OpenSpec.upto rodTurnedSpec)

/-- 'porringerlaw08.RodAlone', WHERE WHAT IT READS IS OF BULK AT MOST 1048576: true; the input reads as it did. -/
def rodAloneUptoRow : OpenClaim := { program := "ytpgdfipikfbjeaa", sum := "8dedf649eecf964c2b5e7d8453bfdba0f493222bfb2914ad11dd7e4c2de3be16", func := "porringer/porringerlaw08.RodAlone", spec := "rodAlone", unfollowed := true, recurses := true, plainKeys := false, apart := false, narrowed := true }
def RodAloneUptoSaid : Prop := rodAloneUptoRow.holds Try.pinned (OpenSpec.upto rodAloneSpec)

/-- 'porringerlaw08.RodPlans', WHERE WHAT IT READS IS OF BULK AT MOST 1048576: true; the input reads as it did. -/
def rodPlansUptoRow : OpenClaim := { program := "ytpgdfipikfbjeaa", sum := "8dedf649eecf964c2b5e7d8453bfdba0f493222bfb2914ad11dd7e4c2de3be16", func := "porringer/porringerlaw08.RodPlans", spec := "rodPlans", unfollowed := true, recurses := true, plainKeys := false, apart := false, narrowed := true }
def RodPlansUptoSaid : Prop := rodPlansUptoRow.holds Try.pinned (OpenSpec.upto rodPlansSpec)

/-- 'porringerlaw08.RodKnown', WHERE WHAT IT READS IS OF BULK AT MOST 1048576: true; the input reads as it did. -/
def rodKnownUptoRow : OpenClaim := { program := "ytpgdfipikfbjeaa", sum := "8dedf649eecf964c2b5e7d8453bfdba0f493222bfb2914ad11dd7e4c2de3be16", func := "porringer/porringerlaw08.RodKnown", spec := "rodKnown", unfollowed := true, recurses := true, plainKeys := false, apart := false, narrowed := true }
def RodKnownUptoSaid : Prop := rodKnownUptoRow.holds Try.pinned (OpenSpec.upto rodKnownSpec)

end Rows
end Go.Proofs.Ytpgdfipikfbjeaa
