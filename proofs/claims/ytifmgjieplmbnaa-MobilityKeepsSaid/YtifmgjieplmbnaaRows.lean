/-
  No cell of these rows narrows 'for every input' (looked for: loops, veiled, ifaces, maps, wideKeys, modest, calm, conditions, laid).
  DERIVED. THE GIVEN ROWS OF THIS SEAT. 15 by the template 'for every input the law returns true; each argument reads behind the call as it read before'; 0 by the template 'total and deterministic' (their statements: YtifmgjieplmbnaaTotals.lean).
  GIVEN WITH THE SEED: the statements are not yours to turn. If you find one false, say at which input.
  Laid BY PROGRAM, IN A SANDBOX (cutbox-rows.mjs): the forced cells as the released guide's own fill.sh prints them over the translation 53f1d8ef13006bce… (all of the seat's roots in one cut). By AI agents, Wed Nov 11 2026. No macro, syntax, notation, axiom, sorry.
-/
import Derived.Test.YtifmgjieplmbnaaChecked
import GoSem.Claim
import GoSem.ClaimJoined
import GoSem.ClaimMapViews
import Derived.JoinedTies
import Derived.KernelRfl
namespace Go.Proofs.Ytifmgjieplmbnaa
/- THE CELL 'sum', in the pinned program and in every row, IS THE sha256 OF THE DUMP (.gsa) THAT YtifmgjieplmbnaaProg.lean LOADS. Nothing in Lean hashes anything: it is a label: what it is worth is what the hold of that sum in a sandbox is worth. -/
noncomputable def Try.pinned : Pinned := { name := "ytifmgjieplmbnaa", sum := "53f1d8ef13006bcec03fbd2219bb9c7f09610a6406dd660e7377c08d9a03e88e", checked := Try.checked }
namespace Rows
def none {H : Type} : Left H := { results := [], args := [] }

/-- 'loftblocklaw11.StaticsTurns': WHATEVER THE INPUT: true; the input reads as it did. -/
def staticsTurnsSpec : ChangeSpec := { name := "staticsTurns", fn := fun _ => fun
  | [d1, d2] => { results := [.lit (.bool true)], args := [d1, d2] }
  | _ => none }
def staticsTurnsRow : OpenClaim := { program := "ytifmgjieplmbnaa", sum := "53f1d8ef13006bcec03fbd2219bb9c7f09610a6406dd660e7377c08d9a03e88e", func := "loftblock/loftblocklaw11.StaticsTurns", spec := "staticsTurns", inPlace := ["math/bits.Sub64", "math/bits.Add64"], unfollowed := true, recurses := true, named := ["math/bits.divideError", "math/bits.overflowError"], apart := false }
def StaticsTurnsSaid : Prop := staticsTurnsRow.holds Try.pinned (OpenSpec.ofChange staticsTurnsSpec)

/-- ITS FALSE NEIGHBOUR: 'it returns false'. Refute it at one input. -/
def staticsTurnsWrong : ChangeSpec := { name := "staticsTurns", fn := fun _ => fun
  | [d1, d2] => { results := [.lit (.bool false)], args := [d1, d2] }
  | _ => none }
def StaticsTurnsWrongFalsely : Prop := staticsTurnsRow.holds Try.pinned (OpenSpec.ofChange staticsTurnsWrong)

/-- 'loftblocklaw11.StaticsAdds': WHATEVER THE INPUT: true; the input reads as it did. -/
def staticsAddsSpec : ChangeSpec := { name := "staticsAdds", fn := fun _ => fun
  | [d1, d2] => { results := [.lit (.bool true)], args := [d1, d2] }
  | _ => none }
def staticsAddsRow : OpenClaim := { program := "ytifmgjieplmbnaa", sum := "53f1d8ef13006bcec03fbd2219bb9c7f09610a6406dd660e7377c08d9a03e88e", func := "loftblock/loftblocklaw11.StaticsAdds", spec := "staticsAdds", inPlace := ["math/bits.Sub64", "math/bits.Add64"], unfollowed := true, recurses := true, named := ["math/bits.divideError", "math/bits.overflowError"], apart := false }
def StaticsAddsSaid : Prop := staticsAddsRow.holds Try.pinned (OpenSpec.ofChange staticsAddsSpec)

/-- ITS FALSE NEIGHBOUR: 'it returns false'. Refute it at one input. -/
def staticsAddsWrong : ChangeSpec := { name := "staticsAdds", fn := fun _ => fun
  | [d1, d2] => { results := [.lit (.bool false)], args := [d1, d2] }
  | _ => none }
def StaticsAddsWrongFalsely : Prop := staticsAddsRow.holds Try.pinned (OpenSpec.ofChange staticsAddsWrong)

/-- 'loftblocklaw12.MotionSpeeds': WHATEVER THE INPUT: true; the input reads as it did. -/
def motionSpeedsSpec : ChangeSpec := { name := "motionSpeeds", fn := fun _ => fun
  | [d1, d2] => { results := [.lit (.bool true)], args := [d1, d2] }
  | _ => none }
def motionSpeedsRow : OpenClaim := { program := "ytifmgjieplmbnaa", sum := "53f1d8ef13006bcec03fbd2219bb9c7f09610a6406dd660e7377c08d9a03e88e", func := "loftblock/loftblocklaw12.MotionSpeeds", spec := "motionSpeeds", inPlace := ["math/bits.Sub64", "math/bits.Add64"], unfollowed := true, recurses := true, named := ["math/bits.divideError", "math/bits.overflowError"], apart := false }
def MotionSpeedsSaid : Prop := motionSpeedsRow.holds Try.pinned (OpenSpec.ofChange motionSpeedsSpec)

/-- ITS FALSE NEIGHBOUR: 'it returns false'. Refute it at one input. -/
def motionSpeedsWrong : ChangeSpec := { name := "motionSpeeds", fn := fun _ => fun
  | [d1, d2] => { results := [.lit (.bool false)], args := [d1, d2] }
  | _ => none }
def MotionSpeedsWrongFalsely : Prop := motionSpeedsRow.holds Try.pinned (OpenSpec.ofChange motionSpeedsWrong)

/-- 'loftblocklaw11.StaticsPoint': WHATEVER THE INPUT: true; the input reads as it did. -/
def staticsPointSpec : ChangeSpec := { name := "staticsPoint", fn := fun _ => fun
  | [d1, d2, d3] => { results := [.lit (.bool true)], args := [d1, d2, d3] }
  | _ => none }
def staticsPointRow : OpenClaim := { program := "ytifmgjieplmbnaa", sum := "53f1d8ef13006bcec03fbd2219bb9c7f09610a6406dd660e7377c08d9a03e88e", func := "loftblock/loftblocklaw11.StaticsPoint", spec := "staticsPoint", inPlace := ["math/bits.Sub64", "math/bits.Add64"], unfollowed := true, recurses := true, named := ["math/bits.divideError", "math/bits.overflowError"], apart := false }
def StaticsPointSaid : Prop := staticsPointRow.holds Try.pinned (OpenSpec.ofChange staticsPointSpec)

/-- ITS FALSE NEIGHBOUR: 'it returns false'. Refute it at one input. -/
def staticsPointWrong : ChangeSpec := { name := "staticsPoint", fn := fun _ => fun
  | [d1, d2, d3] => { results := [.lit (.bool false)], args := [d1, d2, d3] }
  | _ => none }
def StaticsPointWrongFalsely : Prop := staticsPointRow.holds Try.pinned (OpenSpec.ofChange staticsPointWrong)

/-- 'loftblocklaw11.StaticsChecks': WHATEVER THE INPUT: true; the input reads as it did. -/
def staticsChecksSpec : ChangeSpec := { name := "staticsChecks", fn := fun _ => fun
  | [d1, d2] => { results := [.lit (.bool true)], args := [d1, d2] }
  | _ => none }
def staticsChecksRow : OpenClaim := { program := "ytifmgjieplmbnaa", sum := "53f1d8ef13006bcec03fbd2219bb9c7f09610a6406dd660e7377c08d9a03e88e", func := "loftblock/loftblocklaw11.StaticsChecks", spec := "staticsChecks", inPlace := ["math/bits.Sub64", "math/bits.Add64"], unfollowed := true, recurses := true, named := ["math/bits.divideError", "math/bits.overflowError"], apart := false }
def StaticsChecksSaid : Prop := staticsChecksRow.holds Try.pinned (OpenSpec.ofChange staticsChecksSpec)

/-- ITS FALSE NEIGHBOUR: 'it returns false'. Refute it at one input. -/
def staticsChecksWrong : ChangeSpec := { name := "staticsChecks", fn := fun _ => fun
  | [d1, d2] => { results := [.lit (.bool false)], args := [d1, d2] }
  | _ => none }
def StaticsChecksWrongFalsely : Prop := staticsChecksRow.holds Try.pinned (OpenSpec.ofChange staticsChecksWrong)

/-- 'loftblocklaw12.MotionWork': WHATEVER THE INPUT: true; the input reads as it did. -/
def motionWorkSpec : ChangeSpec := { name := "motionWork", fn := fun _ => fun
  | [d1, d2] => { results := [.lit (.bool true)], args := [d1, d2] }
  | _ => none }
def motionWorkRow : OpenClaim := { program := "ytifmgjieplmbnaa", sum := "53f1d8ef13006bcec03fbd2219bb9c7f09610a6406dd660e7377c08d9a03e88e", func := "loftblock/loftblocklaw12.MotionWork", spec := "motionWork", inPlace := ["math/bits.Sub64", "math/bits.Add64"], unfollowed := true, recurses := true, named := ["math/bits.divideError", "math/bits.overflowError"], apart := false }
def MotionWorkSaid : Prop := motionWorkRow.holds Try.pinned (OpenSpec.ofChange motionWorkSpec)

/-- ITS FALSE NEIGHBOUR: 'it returns false'. Refute it at one input. -/
def motionWorkWrong : ChangeSpec := { name := "motionWork", fn := fun _ => fun
  | [d1, d2] => { results := [.lit (.bool false)], args := [d1, d2] }
  | _ => none }
def MotionWorkWrongFalsely : Prop := motionWorkRow.holds Try.pinned (OpenSpec.ofChange motionWorkWrong)

/-- 'loftblocklaw16.MobilityKeeps': WHATEVER THE INPUT: true; the input reads as it did. -/
def mobilityKeepsSpec : ChangeSpec := { name := "mobilityKeeps", fn := fun _ => fun
  | [d] => { results := [.lit (.bool true)], args := [d] }
  | _ => none }
def mobilityKeepsRow : OpenClaim := { program := "ytifmgjieplmbnaa", sum := "53f1d8ef13006bcec03fbd2219bb9c7f09610a6406dd660e7377c08d9a03e88e", func := "loftblock/loftblocklaw16.MobilityKeeps", spec := "mobilityKeeps", inPlace := ["math/bits.Sub64", "math/bits.Add64"], unfollowed := true, recurses := true, named := ["math/bits.divideError", "math/bits.overflowError"], apart := false }
def MobilityKeepsSaid : Prop := mobilityKeepsRow.holds Try.pinned (OpenSpec.ofChange mobilityKeepsSpec)

/-- ITS FALSE NEIGHBOUR: 'it returns false'. Refute it at one input. -/
def mobilityKeepsWrong : ChangeSpec := { name := "mobilityKeeps", fn := fun _ => fun
  | [d] => { results := [.lit (.bool false)], args := [d] }
  | _ => none }
def MobilityKeepsWrongFalsely : Prop := mobilityKeepsRow.holds Try.pinned (OpenSpec.ofChange mobilityKeepsWrong)

/-- 'loftblocklaw11.StaticsHolds': WHATEVER THE INPUT: true; the input reads as it did. -/
def staticsHoldsSpec : ChangeSpec := { name := "staticsHolds", fn := fun _ => fun
  | [d1, d2] => { results := [.lit (.bool true)], args := [d1, d2] }
  | _ => none }
def staticsHoldsRow : OpenClaim := { program := "ytifmgjieplmbnaa", sum := "53f1d8ef13006bcec03fbd2219bb9c7f09610a6406dd660e7377c08d9a03e88e", func := "loftblock/loftblocklaw11.StaticsHolds", spec := "staticsHolds", inPlace := ["math/bits.Sub64", "math/bits.Add64"], unfollowed := true, recurses := true, named := ["math/bits.divideError", "math/bits.overflowError"], apart := false }
def StaticsHoldsSaid : Prop := staticsHoldsRow.holds Try.pinned (OpenSpec.ofChange staticsHoldsSpec)

/-- ITS FALSE NEIGHBOUR: 'it returns false'. Refute it at one input. -/
def staticsHoldsWrong : ChangeSpec := { name := "staticsHolds", fn := fun _ => fun
  | [d1, d2] => { results := [.lit (.bool false)], args := [d1, d2] }
  | _ => none }
def StaticsHoldsWrongFalsely : Prop := staticsHoldsRow.holds Try.pinned (OpenSpec.ofChange staticsHoldsWrong)

/-- 'loftblocklaw16.MobilityProves': WHATEVER THE INPUT: true; the input reads as it did. -/
def mobilityProvesSpec : ChangeSpec := { name := "mobilityProves", fn := fun _ => fun
  | [d] => { results := [.lit (.bool true)], args := [d] }
  | _ => none }
def mobilityProvesRow : OpenClaim := { program := "ytifmgjieplmbnaa", sum := "53f1d8ef13006bcec03fbd2219bb9c7f09610a6406dd660e7377c08d9a03e88e", func := "loftblock/loftblocklaw16.MobilityProves", spec := "mobilityProves", inPlace := ["math/bits.Sub64", "math/bits.Add64"], unfollowed := true, recurses := true, named := ["math/bits.divideError", "math/bits.overflowError"], apart := false }
def MobilityProvesSaid : Prop := mobilityProvesRow.holds Try.pinned (OpenSpec.ofChange mobilityProvesSpec)

/-- ITS FALSE NEIGHBOUR: 'it returns false'. Refute it at one input. -/
def mobilityProvesWrong : ChangeSpec := { name := "mobilityProves", fn := fun _ => fun
  | [d] => { results := [.lit (.bool false)], args := [d] }
  | _ => none }
def MobilityProvesWrongFalsely : Prop := mobilityProvesRow.holds Try.pinned (OpenSpec.ofChange mobilityProvesWrong)

/-- 'loftblocklaw16.MobilityWithout': WHATEVER THE INPUT: true; the input reads as it did. -/
def mobilityWithoutSpec : ChangeSpec := { name := "mobilityWithout", fn := fun _ => fun
  | [d1, d2] => { results := [.lit (.bool true)], args := [d1, d2] }
  | _ => none }
def mobilityWithoutRow : OpenClaim := { program := "ytifmgjieplmbnaa", sum := "53f1d8ef13006bcec03fbd2219bb9c7f09610a6406dd660e7377c08d9a03e88e", func := "loftblock/loftblocklaw16.MobilityWithout", spec := "mobilityWithout", inPlace := ["math/bits.Sub64", "math/bits.Add64"], unfollowed := true, recurses := true, named := ["math/bits.divideError", "math/bits.overflowError"], apart := false }
def MobilityWithoutSaid : Prop := mobilityWithoutRow.holds Try.pinned (OpenSpec.ofChange mobilityWithoutSpec)

/-- ITS FALSE NEIGHBOUR: 'it returns false'. Refute it at one input. -/
def mobilityWithoutWrong : ChangeSpec := { name := "mobilityWithout", fn := fun _ => fun
  | [d1, d2] => { results := [.lit (.bool false)], args := [d1, d2] }
  | _ => none }
def MobilityWithoutWrongFalsely : Prop := mobilityWithoutRow.holds Try.pinned (OpenSpec.ofChange mobilityWithoutWrong)

/-- 'loftblocklaw16.MobilityOrder': WHATEVER THE INPUT: true; the input reads as it did. -/
def mobilityOrderSpec : ChangeSpec := { name := "mobilityOrder", fn := fun _ => fun
  | [d1, d2] => { results := [.lit (.bool true)], args := [d1, d2] }
  | _ => none }
def mobilityOrderRow : OpenClaim := { program := "ytifmgjieplmbnaa", sum := "53f1d8ef13006bcec03fbd2219bb9c7f09610a6406dd660e7377c08d9a03e88e", func := "loftblock/loftblocklaw16.MobilityOrder", spec := "mobilityOrder", inPlace := ["math/bits.Sub64", "math/bits.Add64"], unfollowed := true, recurses := true, named := ["math/bits.divideError", "math/bits.overflowError"], apart := false }
def MobilityOrderSaid : Prop := mobilityOrderRow.holds Try.pinned (OpenSpec.ofChange mobilityOrderSpec)

/-- ITS FALSE NEIGHBOUR: 'it returns false'. Refute it at one input. -/
def mobilityOrderWrong : ChangeSpec := { name := "mobilityOrder", fn := fun _ => fun
  | [d1, d2] => { results := [.lit (.bool false)], args := [d1, d2] }
  | _ => none }
def MobilityOrderWrongFalsely : Prop := mobilityOrderRow.holds Try.pinned (OpenSpec.ofChange mobilityOrderWrong)

/-- 'loftblocklaw12.MotionGoes': WHATEVER THE INPUT: true; the input reads as it did. -/
def motionGoesSpec : ChangeSpec := { name := "motionGoes", fn := fun _ => fun
  | [d1, d2, d3, d4] => { results := [.lit (.bool true)], args := [d1, d2, d3, d4] }
  | _ => none }
def motionGoesRow : OpenClaim := { program := "ytifmgjieplmbnaa", sum := "53f1d8ef13006bcec03fbd2219bb9c7f09610a6406dd660e7377c08d9a03e88e", func := "loftblock/loftblocklaw12.MotionGoes", spec := "motionGoes", inPlace := ["math/bits.Sub64", "math/bits.Add64"], unfollowed := true, recurses := true, named := ["math/bits.divideError", "math/bits.overflowError"], apart := false }
def MotionGoesSaid : Prop := motionGoesRow.holds Try.pinned (OpenSpec.ofChange motionGoesSpec)

/-- ITS FALSE NEIGHBOUR: 'it returns false'. Refute it at one input. -/
def motionGoesWrong : ChangeSpec := { name := "motionGoes", fn := fun _ => fun
  | [d1, d2, d3, d4] => { results := [.lit (.bool false)], args := [d1, d2, d3, d4] }
  | _ => none }
def MotionGoesWrongFalsely : Prop := motionGoesRow.holds Try.pinned (OpenSpec.ofChange motionGoesWrong)

/-- 'loftblocklaw12.MotionLengths': WHATEVER THE INPUT: true; the input reads as it did. -/
def motionLengthsSpec : ChangeSpec := { name := "motionLengths", fn := fun _ => fun
  | [d1, d2, d3] => { results := [.lit (.bool true)], args := [d1, d2, d3] }
  | _ => none }
def motionLengthsRow : OpenClaim := { program := "ytifmgjieplmbnaa", sum := "53f1d8ef13006bcec03fbd2219bb9c7f09610a6406dd660e7377c08d9a03e88e", func := "loftblock/loftblocklaw12.MotionLengths", spec := "motionLengths", inPlace := ["math/bits.Sub64", "math/bits.Add64"], unfollowed := true, recurses := true, named := ["math/bits.divideError", "math/bits.overflowError"], apart := false }
def MotionLengthsSaid : Prop := motionLengthsRow.holds Try.pinned (OpenSpec.ofChange motionLengthsSpec)

/-- ITS FALSE NEIGHBOUR: 'it returns false'. Refute it at one input. -/
def motionLengthsWrong : ChangeSpec := { name := "motionLengths", fn := fun _ => fun
  | [d1, d2, d3] => { results := [.lit (.bool false)], args := [d1, d2, d3] }
  | _ => none }
def MotionLengthsWrongFalsely : Prop := motionLengthsRow.holds Try.pinned (OpenSpec.ofChange motionLengthsWrong)

/-- 'loftblocklaw16.MobilityRemoves': WHATEVER THE INPUT: true; the input reads as it did. -/
def mobilityRemovesSpec : ChangeSpec := { name := "mobilityRemoves", fn := fun _ => fun
  | [d1, d2] => { results := [.lit (.bool true)], args := [d1, d2] }
  | _ => none }
def mobilityRemovesRow : OpenClaim := { program := "ytifmgjieplmbnaa", sum := "53f1d8ef13006bcec03fbd2219bb9c7f09610a6406dd660e7377c08d9a03e88e", func := "loftblock/loftblocklaw16.MobilityRemoves", spec := "mobilityRemoves", inPlace := ["math/bits.Sub64", "math/bits.Add64"], unfollowed := true, recurses := true, named := ["math/bits.divideError", "math/bits.overflowError"], apart := false }
def MobilityRemovesSaid : Prop := mobilityRemovesRow.holds Try.pinned (OpenSpec.ofChange mobilityRemovesSpec)

/-- ITS FALSE NEIGHBOUR: 'it returns false'. Refute it at one input. -/
def mobilityRemovesWrong : ChangeSpec := { name := "mobilityRemoves", fn := fun _ => fun
  | [d1, d2] => { results := [.lit (.bool false)], args := [d1, d2] }
  | _ => none }
def MobilityRemovesWrongFalsely : Prop := mobilityRemovesRow.holds Try.pinned (OpenSpec.ofChange mobilityRemovesWrong)

/-- 'loftblocklaw12.MotionFrees': WHATEVER THE INPUT: true; the input reads as it did. -/
def motionFreesSpec : ChangeSpec := { name := "motionFrees", fn := fun _ => fun
  | [d1, d2, d3] => { results := [.lit (.bool true)], args := [d1, d2, d3] }
  | _ => none }
def motionFreesRow : OpenClaim := { program := "ytifmgjieplmbnaa", sum := "53f1d8ef13006bcec03fbd2219bb9c7f09610a6406dd660e7377c08d9a03e88e", func := "loftblock/loftblocklaw12.MotionFrees", spec := "motionFrees", inPlace := ["math/bits.Sub64", "math/bits.Add64"], unfollowed := true, recurses := true, named := ["math/bits.divideError", "math/bits.overflowError"], apart := false }
def MotionFreesSaid : Prop := motionFreesRow.holds Try.pinned (OpenSpec.ofChange motionFreesSpec)

/-- ITS FALSE NEIGHBOUR: 'it returns false'. Refute it at one input. -/
def motionFreesWrong : ChangeSpec := { name := "motionFrees", fn := fun _ => fun
  | [d1, d2, d3] => { results := [.lit (.bool false)], args := [d1, d2, d3] }
  | _ => none }
def MotionFreesWrongFalsely : Prop := motionFreesRow.holds Try.pinned (OpenSpec.ofChange motionFreesWrong)

/- THE SECOND FORM. 'bulk': how many values and letters a reading holds, each counted each time it is reached (what is shared counts as often as it is met; a slice's spare places count too). A statement '..UptoSaid' is the law's where the arguments, and the package variables that the reading takes, are together of bulk at most 1048576: NARROWER than '..Said'. Prove '..Said' where nothing that the law and all that it calls make is longer than what came in: it says more and counts as full. Else prove '..UptoSaid'. A law counts once. -/
mutual
def uptoBulk {H : Type} : DataW H → Nat
  | .lit (.string bytes) => bytes.length + 1
  | .lit _ => 1
  | .nil => 1
  | .ptr d => uptoBulk d + 1
  | .slice elems spare => uptoBulkAll elems + uptoBulkAll spare + 1
  | .agg parts => uptoBulkAll parts + 1
  | .iface _ d => uptoBulk d + 1
  | .map entries => uptoBulkEntries entries + 1
  | .held _ => 1
def uptoBulkAll {H : Type} : List (DataW H) → Nat
  | [] => 0
  | d :: r => uptoBulk d + uptoBulkAll r
def uptoBulkEntries {H : Type} : List (Lit × DataW H) → Nat
  | [] => 0
  | x :: r => uptoBulkEntry x + uptoBulkEntries r
def uptoBulkEntry {H : Type} : Lit × DataW H → Nat
  | (.string bytes, d) => bytes.length + uptoBulk d + 1
  | (_, d) => uptoBulk d + 1
 end
def uptoSmall : (H : Type) → List (DataW H) → Bool := fun _ ds => decide (uptoBulkAll ds ≤ 1048576)
def OpenSpec.upto (s : _root_.Go.ChangeSpec) : _root_.Go.OpenSpec := { _root_.Go.OpenSpec.ofChange s with cond := some uptoSmall }

/-- 'loftblocklaw11.StaticsTurns', WHERE WHAT IT READS IS OF BULK AT MOST 1048576: true; the input reads as it did. -/
def staticsTurnsUptoRow : OpenClaim := { program := "ytifmgjieplmbnaa", sum := "53f1d8ef13006bcec03fbd2219bb9c7f09610a6406dd660e7377c08d9a03e88e", func := "loftblock/loftblocklaw11.StaticsTurns", spec := "staticsTurns", inPlace := ["math/bits.Sub64", "math/bits.Add64"], unfollowed := true, recurses := true, named := ["math/bits.divideError", "math/bits.overflowError"], apart := false, narrowed := true }
def StaticsTurnsUptoSaid : Prop := staticsTurnsUptoRow.holds Try.pinned (OpenSpec.upto staticsTurnsSpec)

/-- 'loftblocklaw11.StaticsAdds', WHERE WHAT IT READS IS OF BULK AT MOST 1048576: true; the input reads as it did. -/
def staticsAddsUptoRow : OpenClaim := { program := "ytifmgjieplmbnaa", sum := "53f1d8ef13006bcec03fbd2219bb9c7f09610a6406dd660e7377c08d9a03e88e", func := "loftblock/loftblocklaw11.StaticsAdds", spec := "staticsAdds", inPlace := ["math/bits.Sub64", "math/bits.Add64"], unfollowed := true, recurses := true, named := ["math/bits.divideError", "math/bits.overflowError"], apart := false, narrowed := true }
def StaticsAddsUptoSaid : Prop := staticsAddsUptoRow.holds Try.pinned (OpenSpec.upto staticsAddsSpec)

/-- 'loftblocklaw12.MotionSpeeds', WHERE WHAT IT READS IS OF BULK AT MOST 1048576: true; the input reads as it did. -/
def motionSpeedsUptoRow : OpenClaim := { program := "ytifmgjieplmbnaa", sum := "53f1d8ef13006bcec03fbd2219bb9c7f09610a6406dd660e7377c08d9a03e88e", func := "loftblock/loftblocklaw12.MotionSpeeds", spec := "motionSpeeds", inPlace := ["math/bits.Sub64", "math/bits.Add64"], unfollowed := true, recurses := true, named := ["math/bits.divideError", "math/bits.overflowError"], apart := false, narrowed := true }
def MotionSpeedsUptoSaid : Prop := motionSpeedsUptoRow.holds Try.pinned (OpenSpec.upto motionSpeedsSpec)

/-- 'loftblocklaw11.StaticsPoint', WHERE WHAT IT READS IS OF BULK AT MOST 1048576: true; the input reads as it did. -/
def staticsPointUptoRow : OpenClaim := { program := "ytifmgjieplmbnaa", sum := "53f1d8ef13006bcec03fbd2219bb9c7f09610a6406dd660e7377c08d9a03e88e", func := "loftblock/loftblocklaw11.StaticsPoint", spec := "staticsPoint", inPlace := ["math/bits.Sub64", "math/bits.Add64"], unfollowed := true, recurses := true, named := ["math/bits.divideError", "math/bits.overflowError"], apart := false, narrowed := true }
def StaticsPointUptoSaid : Prop := staticsPointUptoRow.holds Try.pinned (OpenSpec.upto staticsPointSpec)

/-- 'loftblocklaw11.StaticsChecks', WHERE WHAT IT READS IS OF BULK AT MOST 1048576: true; the input reads as it did. -/
def staticsChecksUptoRow : OpenClaim := { program := "ytifmgjieplmbnaa", sum := "53f1d8ef13006bcec03fbd2219bb9c7f09610a6406dd660e7377c08d9a03e88e", func := "loftblock/loftblocklaw11.StaticsChecks", spec := "staticsChecks", inPlace := ["math/bits.Sub64", "math/bits.Add64"], unfollowed := true, recurses := true, named := ["math/bits.divideError", "math/bits.overflowError"], apart := false, narrowed := true }
def StaticsChecksUptoSaid : Prop := staticsChecksUptoRow.holds Try.pinned (OpenSpec.upto staticsChecksSpec)

/-- 'loftblocklaw12.MotionWork', WHERE WHAT IT READS IS OF BULK AT MOST 1048576: true; the input reads as it did. -/
def motionWorkUptoRow : OpenClaim := { program := "ytifmgjieplmbnaa", sum := "53f1d8ef13006bcec03fbd2219bb9c7f09610a6406dd660e7377c08d9a03e88e", func := "loftblock/loftblocklaw12.MotionWork", spec := "motionWork", inPlace := ["math/bits.Sub64", "math/bits.Add64"], unfollowed := true, recurses := true, named := ["math/bits.divideError", "math/bits.overflowError"], apart := false, narrowed := true }
def MotionWorkUptoSaid : Prop := motionWorkUptoRow.holds Try.pinned (OpenSpec.upto motionWorkSpec)

/-- 'loftblocklaw16.MobilityKeeps', WHERE WHAT IT READS IS OF BULK AT MOST 1048576: true; the input reads as it did. -/
def mobilityKeepsUptoRow : OpenClaim := { program := "ytifmgjieplmbnaa", sum := "53f1d8ef13006bcec03fbd2219bb9c7f09610a6406dd660e7377c08d9a03e88e", func := "loftblock/loftblocklaw16.MobilityKeeps", spec := "mobilityKeeps", inPlace := ["math/bits.Sub64", "math/bits.Add64"], unfollowed := true, recurses := true, named := ["math/bits.divideError", "math/bits.overflowError"], apart := false, narrowed := true }
def MobilityKeepsUptoSaid : Prop := mobilityKeepsUptoRow.holds Try.pinned (OpenSpec.upto mobilityKeepsSpec)

/-- 'loftblocklaw11.StaticsHolds', WHERE WHAT IT READS IS OF BULK AT MOST 1048576: true; the input reads as it did. -/
def staticsHoldsUptoRow : OpenClaim := { program := "ytifmgjieplmbnaa", sum := "53f1d8ef13006bcec03fbd2219bb9c7f09610a6406dd660e7377c08d9a03e88e", func := "loftblock/loftblocklaw11.StaticsHolds", spec := "staticsHolds", inPlace := ["math/bits.Sub64", "math/bits.Add64"], unfollowed := true, recurses := true, named := ["math/bits.divideError", "math/bits.overflowError"], apart := false, narrowed := true }
def StaticsHoldsUptoSaid : Prop := staticsHoldsUptoRow.holds Try.pinned (OpenSpec.upto staticsHoldsSpec)

/-- 'loftblocklaw16.MobilityProves', WHERE WHAT IT READS IS OF BULK AT MOST 1048576: true; the input reads as it did. -/
def mobilityProvesUptoRow : OpenClaim := { program := "ytifmgjieplmbnaa", sum := "53f1d8ef13006bcec03fbd2219bb9c7f09610a6406dd660e7377c08d9a03e88e", func := "loftblock/loftblocklaw16.MobilityProves", spec := "mobilityProves", inPlace := ["math/bits.Sub64", "math/bits.Add64"], unfollowed := true, recurses := true, named := ["math/bits.divideError", "math/bits.overflowError"], apart := false, narrowed := true }
def MobilityProvesUptoSaid : Prop := mobilityProvesUptoRow.holds Try.pinned (OpenSpec.upto mobilityProvesSpec)

/-- 'loftblocklaw16.MobilityWithout', WHERE WHAT IT READS IS OF BULK AT MOST 1048576: true; the input reads as it did. -/
def mobilityWithoutUptoRow : OpenClaim := { program := "ytifmgjieplmbnaa", sum := "53f1d8ef13006bcec03fbd2219bb9c7f09610a6406dd660e7377c08d9a03e88e", func := "loftblock/loftblocklaw16.MobilityWithout", spec := "mobilityWithout", inPlace := ["math/bits.Sub64", "math/bits.Add64"], unfollowed := true, recurses := true, named := ["math/bits.divideError", "math/bits.overflowError"], apart := false, narrowed := true }
def MobilityWithoutUptoSaid : Prop := mobilityWithoutUptoRow.holds Try.pinned (OpenSpec.upto mobilityWithoutSpec)

/-- 'loftblocklaw16.MobilityOrder', WHERE WHAT IT READS IS OF BULK AT MOST 1048576: true; the input reads as it did. -/
def mobilityOrderUptoRow : OpenClaim := { program := "ytifmgjieplmbnaa", sum := "53f1d8ef13006bcec03fbd2219bb9c7f09610a6406dd660e7377c08d9a03e88e", func := "loftblock/loftblocklaw16.MobilityOrder", spec := "mobilityOrder", inPlace := ["math/bits.Sub64", "math/bits.Add64"], unfollowed := true, recurses := true, named := ["math/bits.divideError", "math/bits.overflowError"], apart := false, narrowed := true }
def MobilityOrderUptoSaid : Prop := mobilityOrderUptoRow.holds Try.pinned (OpenSpec.upto mobilityOrderSpec)

/-- 'loftblocklaw12.MotionGoes', WHERE WHAT IT READS IS OF BULK AT MOST 1048576: true; the input reads as it did. -/
def motionGoesUptoRow : OpenClaim := { program := "ytifmgjieplmbnaa", sum := "53f1d8ef13006bcec03fbd2219bb9c7f09610a6406dd660e7377c08d9a03e88e", func := "loftblock/loftblocklaw12.MotionGoes", spec := "motionGoes", inPlace := ["math/bits.Sub64", "math/bits.Add64"], unfollowed := true, recurses := true, named := ["math/bits.divideError", "math/bits.overflowError"], apart := false, narrowed := true }
def MotionGoesUptoSaid : Prop := motionGoesUptoRow.holds Try.pinned (OpenSpec.upto motionGoesSpec)

/-- 'loftblocklaw12.MotionLengths', WHERE WHAT IT READS IS OF BULK AT MOST 1048576: true; the input reads as it did. -/
def motionLengthsUptoRow : OpenClaim := { program := "ytifmgjieplmbnaa", sum := "53f1d8ef13006bcec03fbd2219bb9c7f09610a6406dd660e7377c08d9a03e88e", func := "loftblock/loftblocklaw12.MotionLengths", spec := "motionLengths", inPlace := ["math/bits.Sub64", "math/bits.Add64"], unfollowed := true, recurses := true, named := ["math/bits.divideError", "math/bits.overflowError"], apart := false, narrowed := true }
def MotionLengthsUptoSaid : Prop := motionLengthsUptoRow.holds Try.pinned (OpenSpec.upto motionLengthsSpec)

/-- 'loftblocklaw16.MobilityRemoves', WHERE WHAT IT READS IS OF BULK AT MOST 1048576: true; the input reads as it did. -/
def mobilityRemovesUptoRow : OpenClaim := { program := "ytifmgjieplmbnaa", sum := "53f1d8ef13006bcec03fbd2219bb9c7f09610a6406dd660e7377c08d9a03e88e", func := "loftblock/loftblocklaw16.MobilityRemoves", spec := "mobilityRemoves", inPlace := ["math/bits.Sub64", "math/bits.Add64"], unfollowed := true, recurses := true, named := ["math/bits.divideError", "math/bits.overflowError"], apart := false, narrowed := true }
def MobilityRemovesUptoSaid : Prop := mobilityRemovesUptoRow.holds Try.pinned (OpenSpec.upto mobilityRemovesSpec)

/-- 'loftblocklaw12.MotionFrees', WHERE WHAT IT READS IS OF BULK AT MOST 1048576: true; the input reads as it did. -/
def motionFreesUptoRow : OpenClaim := { program := "ytifmgjieplmbnaa", sum := "53f1d8ef13006bcec03fbd2219bb9c7f09610a6406dd660e7377c08d9a03e88e", func := "loftblock/loftblocklaw12.MotionFrees", spec := "motionFrees", inPlace := ["math/bits.Sub64", "math/bits.Add64"], unfollowed := true, recurses := true, named := ["math/bits.divideError", "math/bits.overflowError"], apart := false, narrowed := true }
def MotionFreesUptoSaid : Prop := motionFreesUptoRow.holds Try.pinned (OpenSpec.upto motionFreesSpec)

end Rows
end Go.Proofs.Ytifmgjieplmbnaa
