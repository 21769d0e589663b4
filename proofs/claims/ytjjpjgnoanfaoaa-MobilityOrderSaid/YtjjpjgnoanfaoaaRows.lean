/-
  No cell of these rows narrows 'for every input' (looked for: loops, veiled, ifaces, maps, wideKeys, modest, calm, conditions, laid).
  DERIVED. THE GIVEN ROWS OF THIS SEAT. 11 by the template 'for every input the law returns true; each argument reads behind the call as it read before'; 0 by the template 'total and deterministic' (their statements: YtjjpjgnoanfaoaaTotals.lean).
  GIVEN WITH THE SEED: the statements are not yours to turn. If you find one false, say at which input.
  Laid BY PROGRAM, IN A SANDBOX (cutbox-rows.mjs): the forced cells as the released guide's own fill.sh prints them over the translation 5ca95e10b97901ca… (all of the seat's roots in one cut). By AI agents, Wed Nov 11 2026. No macro, syntax, notation, axiom, sorry.
-/
import Derived.Test.YtjjpjgnoanfaoaaChecked
import GoSem.Claim
import GoSem.ClaimJoined
import GoSem.ClaimMapViews
import Derived.JoinedTies
import Derived.KernelRfl
namespace Go.Proofs.Ytjjpjgnoanfaoaa
/- THE CELL 'sum', in the pinned program and in every row, IS THE sha256 OF THE DUMP (.gsa) THAT YtjjpjgnoanfaoaaProg.lean LOADS. Nothing in Lean hashes anything: it is a label: what it is worth is what the hold of that sum in a sandbox is worth. -/
noncomputable def Try.pinned : Pinned := { name := "ytjjpjgnoanfaoaa", sum := "5ca95e10b97901ca1bd4e9178b992b39b635400e8b004a2721a93a439edc9d79", checked := Try.checked }
namespace Rows
def none {H : Type} : Left H := { results := [], args := [] }

/-- 'loftblocklaw03.SpanNarrow': WHATEVER THE INPUT: true; the input reads as it did. -/
def spanNarrowSpec : ChangeSpec := { name := "spanNarrow", fn := fun _ => fun
  | [d1, d2, d3, d4, d5, d6] => { results := [.lit (.bool true)], args := [d1, d2, d3, d4, d5, d6] }
  | _ => none }
def spanNarrowRow : OpenClaim := { program := "ytjjpjgnoanfaoaa", sum := "5ca95e10b97901ca1bd4e9178b992b39b635400e8b004a2721a93a439edc9d79", func := "loftblock/loftblocklaw03.SpanNarrow", spec := "spanNarrow", unfollowed := true, recurses := true, named := ["math/bits.divideError", "math/bits.overflowError"], apart := false }
def SpanNarrowSaid : Prop := spanNarrowRow.holds Try.pinned (OpenSpec.ofChange spanNarrowSpec)

/-- ITS FALSE NEIGHBOUR: 'it returns false'. Refute it at one input. -/
def spanNarrowWrong : ChangeSpec := { name := "spanNarrow", fn := fun _ => fun
  | [d1, d2, d3, d4, d5, d6] => { results := [.lit (.bool false)], args := [d1, d2, d3, d4, d5, d6] }
  | _ => none }
def SpanNarrowWrongFalsely : Prop := spanNarrowRow.holds Try.pinned (OpenSpec.ofChange spanNarrowWrong)

/-- 'loftblocklaw03.SpanFractions': WHATEVER THE INPUT: true; the input reads as it did. -/
def spanFractionsSpec : ChangeSpec := { name := "spanFractions", fn := fun _ => fun
  | [d1, d2] => { results := [.lit (.bool true)], args := [d1, d2] }
  | _ => none }
def spanFractionsRow : OpenClaim := { program := "ytjjpjgnoanfaoaa", sum := "5ca95e10b97901ca1bd4e9178b992b39b635400e8b004a2721a93a439edc9d79", func := "loftblock/loftblocklaw03.SpanFractions", spec := "spanFractions", named := ["math/bits.divideError", "math/bits.overflowError"], apart := false }
def SpanFractionsSaid : Prop := spanFractionsRow.holds Try.pinned (OpenSpec.ofChange spanFractionsSpec)

/-- ITS FALSE NEIGHBOUR: 'it returns false'. Refute it at one input. -/
def spanFractionsWrong : ChangeSpec := { name := "spanFractions", fn := fun _ => fun
  | [d1, d2] => { results := [.lit (.bool false)], args := [d1, d2] }
  | _ => none }
def SpanFractionsWrongFalsely : Prop := spanFractionsRow.holds Try.pinned (OpenSpec.ofChange spanFractionsWrong)

/-- 'loftblocklaw11.StaticsTurns': WHATEVER THE INPUT: true; the input reads as it did. -/
def staticsTurnsSpec : ChangeSpec := { name := "staticsTurns", fn := fun _ => fun
  | [d1, d2] => { results := [.lit (.bool true)], args := [d1, d2] }
  | _ => none }
def staticsTurnsRow : OpenClaim := { program := "ytjjpjgnoanfaoaa", sum := "5ca95e10b97901ca1bd4e9178b992b39b635400e8b004a2721a93a439edc9d79", func := "loftblock/loftblocklaw11.StaticsTurns", spec := "staticsTurns", inPlace := ["math/bits.Sub64", "math/bits.Add64"], unfollowed := true, recurses := true, named := ["math/bits.divideError", "math/bits.overflowError"], apart := false }
def StaticsTurnsSaid : Prop := staticsTurnsRow.holds Try.pinned (OpenSpec.ofChange staticsTurnsSpec)

/-- ITS FALSE NEIGHBOUR: 'it returns false'. Refute it at one input. -/
def staticsTurnsWrong : ChangeSpec := { name := "staticsTurns", fn := fun _ => fun
  | [d1, d2] => { results := [.lit (.bool false)], args := [d1, d2] }
  | _ => none }
def StaticsTurnsWrongFalsely : Prop := staticsTurnsRow.holds Try.pinned (OpenSpec.ofChange staticsTurnsWrong)

/-- 'loftblocklaw11.StaticsAdds': WHATEVER THE INPUT: true; the input reads as it did. -/
def staticsAddsSpec : ChangeSpec := { name := "staticsAdds", fn := fun _ => fun
  | [d1, d2] => { results := [.lit (.bool true)], args := [d1, d2] }
  | _ => none }
def staticsAddsRow : OpenClaim := { program := "ytjjpjgnoanfaoaa", sum := "5ca95e10b97901ca1bd4e9178b992b39b635400e8b004a2721a93a439edc9d79", func := "loftblock/loftblocklaw11.StaticsAdds", spec := "staticsAdds", inPlace := ["math/bits.Sub64", "math/bits.Add64"], unfollowed := true, recurses := true, named := ["math/bits.divideError", "math/bits.overflowError"], apart := false }
def StaticsAddsSaid : Prop := staticsAddsRow.holds Try.pinned (OpenSpec.ofChange staticsAddsSpec)

/-- ITS FALSE NEIGHBOUR: 'it returns false'. Refute it at one input. -/
def staticsAddsWrong : ChangeSpec := { name := "staticsAdds", fn := fun _ => fun
  | [d1, d2] => { results := [.lit (.bool false)], args := [d1, d2] }
  | _ => none }
def StaticsAddsWrongFalsely : Prop := staticsAddsRow.holds Try.pinned (OpenSpec.ofChange staticsAddsWrong)

/-- 'loftblocklaw16.MobilityOrder': WHATEVER THE INPUT: true; the input reads as it did. -/
def mobilityOrderSpec : ChangeSpec := { name := "mobilityOrder", fn := fun _ => fun
  | [d1, d2] => { results := [.lit (.bool true)], args := [d1, d2] }
  | _ => none }
def mobilityOrderRow : OpenClaim := { program := "ytjjpjgnoanfaoaa", sum := "5ca95e10b97901ca1bd4e9178b992b39b635400e8b004a2721a93a439edc9d79", func := "loftblock/loftblocklaw16.MobilityOrder", spec := "mobilityOrder", inPlace := ["math/bits.Sub64", "math/bits.Add64"], unfollowed := true, recurses := true, named := ["math/bits.divideError", "math/bits.overflowError"], apart := false }
def MobilityOrderSaid : Prop := mobilityOrderRow.holds Try.pinned (OpenSpec.ofChange mobilityOrderSpec)

/-- ITS FALSE NEIGHBOUR: 'it returns false'. Refute it at one input. -/
def mobilityOrderWrong : ChangeSpec := { name := "mobilityOrder", fn := fun _ => fun
  | [d1, d2] => { results := [.lit (.bool false)], args := [d1, d2] }
  | _ => none }
def MobilityOrderWrongFalsely : Prop := mobilityOrderRow.holds Try.pinned (OpenSpec.ofChange mobilityOrderWrong)

/-- 'loftblocklaw13.AdvantageSame': WHATEVER THE INPUT: true; the input reads as it did. -/
def advantageSameSpec : ChangeSpec := { name := "advantageSame", fn := fun _ => fun
  | [d1, d2] => { results := [.lit (.bool true)], args := [d1, d2] }
  | _ => none }
def advantageSameRow : OpenClaim := { program := "ytjjpjgnoanfaoaa", sum := "5ca95e10b97901ca1bd4e9178b992b39b635400e8b004a2721a93a439edc9d79", func := "loftblock/loftblocklaw13.AdvantageSame", spec := "advantageSame", inPlace := ["math/bits.Sub64", "math/bits.Add64"], unfollowed := true, recurses := true, named := ["math/bits.divideError", "math/bits.overflowError"], apart := false }
def AdvantageSameSaid : Prop := advantageSameRow.holds Try.pinned (OpenSpec.ofChange advantageSameSpec)

/-- ITS FALSE NEIGHBOUR: 'it returns false'. Refute it at one input. -/
def advantageSameWrong : ChangeSpec := { name := "advantageSame", fn := fun _ => fun
  | [d1, d2] => { results := [.lit (.bool false)], args := [d1, d2] }
  | _ => none }
def AdvantageSameWrongFalsely : Prop := advantageSameRow.holds Try.pinned (OpenSpec.ofChange advantageSameWrong)

/-- 'loftblocklaw13.AdvantageEqual': WHATEVER THE INPUT: true; the input reads as it did. -/
def advantageEqualSpec : ChangeSpec := { name := "advantageEqual", fn := fun _ => fun
  | [d1, d2, d3] => { results := [.lit (.bool true)], args := [d1, d2, d3] }
  | _ => none }
def advantageEqualRow : OpenClaim := { program := "ytjjpjgnoanfaoaa", sum := "5ca95e10b97901ca1bd4e9178b992b39b635400e8b004a2721a93a439edc9d79", func := "loftblock/loftblocklaw13.AdvantageEqual", spec := "advantageEqual", inPlace := ["math/bits.Sub64", "math/bits.Add64"], unfollowed := true, recurses := true, named := ["math/bits.divideError", "math/bits.overflowError"], apart := false }
def AdvantageEqualSaid : Prop := advantageEqualRow.holds Try.pinned (OpenSpec.ofChange advantageEqualSpec)

/-- ITS FALSE NEIGHBOUR: 'it returns false'. Refute it at one input. -/
def advantageEqualWrong : ChangeSpec := { name := "advantageEqual", fn := fun _ => fun
  | [d1, d2, d3] => { results := [.lit (.bool false)], args := [d1, d2, d3] }
  | _ => none }
def AdvantageEqualWrongFalsely : Prop := advantageEqualRow.holds Try.pinned (OpenSpec.ofChange advantageEqualWrong)

/-- 'loftblocklaw13.AdvantageOwn': WHATEVER THE INPUT: true; the input reads as it did. -/
def advantageOwnSpec : ChangeSpec := { name := "advantageOwn", fn := fun _ => fun
  | [d1, d2, d3] => { results := [.lit (.bool true)], args := [d1, d2, d3] }
  | _ => none }
def advantageOwnRow : OpenClaim := { program := "ytjjpjgnoanfaoaa", sum := "5ca95e10b97901ca1bd4e9178b992b39b635400e8b004a2721a93a439edc9d79", func := "loftblock/loftblocklaw13.AdvantageOwn", spec := "advantageOwn", inPlace := ["math/bits.Sub64", "math/bits.Add64"], unfollowed := true, recurses := true, named := ["math/bits.divideError", "math/bits.overflowError"], apart := false }
def AdvantageOwnSaid : Prop := advantageOwnRow.holds Try.pinned (OpenSpec.ofChange advantageOwnSpec)

/-- ITS FALSE NEIGHBOUR: 'it returns false'. Refute it at one input. -/
def advantageOwnWrong : ChangeSpec := { name := "advantageOwn", fn := fun _ => fun
  | [d1, d2, d3] => { results := [.lit (.bool false)], args := [d1, d2, d3] }
  | _ => none }
def AdvantageOwnWrongFalsely : Prop := advantageOwnRow.holds Try.pinned (OpenSpec.ofChange advantageOwnWrong)

/-- 'loftblocklaw13.AdvantageHolds': WHATEVER THE INPUT: true; the input reads as it did. -/
def advantageHoldsSpec : ChangeSpec := { name := "advantageHolds", fn := fun _ => fun
  | [d1, d2, d3] => { results := [.lit (.bool true)], args := [d1, d2, d3] }
  | _ => none }
def advantageHoldsRow : OpenClaim := { program := "ytjjpjgnoanfaoaa", sum := "5ca95e10b97901ca1bd4e9178b992b39b635400e8b004a2721a93a439edc9d79", func := "loftblock/loftblocklaw13.AdvantageHolds", spec := "advantageHolds", inPlace := ["math/bits.Sub64", "math/bits.Add64"], unfollowed := true, recurses := true, named := ["math/bits.divideError", "math/bits.overflowError"], apart := false }
def AdvantageHoldsSaid : Prop := advantageHoldsRow.holds Try.pinned (OpenSpec.ofChange advantageHoldsSpec)

/-- ITS FALSE NEIGHBOUR: 'it returns false'. Refute it at one input. -/
def advantageHoldsWrong : ChangeSpec := { name := "advantageHolds", fn := fun _ => fun
  | [d1, d2, d3] => { results := [.lit (.bool false)], args := [d1, d2, d3] }
  | _ => none }
def AdvantageHoldsWrongFalsely : Prop := advantageHoldsRow.holds Try.pinned (OpenSpec.ofChange advantageHoldsWrong)

/-- 'loftblocklaw14.LossesTwice': WHATEVER THE INPUT: true; the input reads as it did. -/
def lossesTwiceSpec : ChangeSpec := { name := "lossesTwice", fn := fun _ => fun
  | [d] => { results := [.lit (.bool true)], args := [d] }
  | _ => none }
def lossesTwiceRow : OpenClaim := { program := "ytjjpjgnoanfaoaa", sum := "5ca95e10b97901ca1bd4e9178b992b39b635400e8b004a2721a93a439edc9d79", func := "loftblock/loftblocklaw14.LossesTwice", spec := "lossesTwice", inPlace := ["math/bits.Add64", "math/bits.Sub64"], unfollowed := true, recurses := true, named := ["math/bits.divideError", "math/bits.overflowError"], apart := false }
def LossesTwiceSaid : Prop := lossesTwiceRow.holds Try.pinned (OpenSpec.ofChange lossesTwiceSpec)

/-- ITS FALSE NEIGHBOUR: 'it returns false'. Refute it at one input. -/
def lossesTwiceWrong : ChangeSpec := { name := "lossesTwice", fn := fun _ => fun
  | [d] => { results := [.lit (.bool false)], args := [d] }
  | _ => none }
def LossesTwiceWrongFalsely : Prop := lossesTwiceRow.holds Try.pinned (OpenSpec.ofChange lossesTwiceWrong)

/-- 'loftblocklaw14.LossesAlong': WHATEVER THE INPUT: true; the input reads as it did. -/
def lossesAlongSpec : ChangeSpec := { name := "lossesAlong", fn := fun _ => fun
  | [d1, d2] => { results := [.lit (.bool true)], args := [d1, d2] }
  | _ => none }
def lossesAlongRow : OpenClaim := { program := "ytjjpjgnoanfaoaa", sum := "5ca95e10b97901ca1bd4e9178b992b39b635400e8b004a2721a93a439edc9d79", func := "loftblock/loftblocklaw14.LossesAlong", spec := "lossesAlong", inPlace := ["math/bits.Add64", "math/bits.Sub64"], unfollowed := true, recurses := true, named := ["math/bits.divideError", "math/bits.overflowError"], apart := false }
def LossesAlongSaid : Prop := lossesAlongRow.holds Try.pinned (OpenSpec.ofChange lossesAlongSpec)

/-- ITS FALSE NEIGHBOUR: 'it returns false'. Refute it at one input. -/
def lossesAlongWrong : ChangeSpec := { name := "lossesAlong", fn := fun _ => fun
  | [d1, d2] => { results := [.lit (.bool false)], args := [d1, d2] }
  | _ => none }
def LossesAlongWrongFalsely : Prop := lossesAlongRow.holds Try.pinned (OpenSpec.ofChange lossesAlongWrong)

/- THE SECOND FORM. 'bulk': how many values and letters a reading holds, each counted each time it is reached (what is shared counts as often as it is met; a slice's spare places count too). A statement '..UptoSaid' is the law's where the arguments, and the package variables that the reading takes, are together of bulk at most 1048576: NARROWER than '..Said'. Prove '..Said' where nothing that the law and all that it calls make is longer than what came in: it says more and counts as full. Else prove '..UptoSaid'. A law counts once. -/
mutual
def uptoBulk {H : Type} : DataW H → Nat
  | .lit (.string bytes) => bytes.length + 1
  | .lit _ => 1
  | .nil => 1
  | .ptr d => uptoBulk d + 1
  | .slice elems spare => uptoBulkAll elems + uptoBulkAll spare + 1
  | .agg parts => uptoBulkAll parts + 1
  | .iface _ d => uptoBulk d + 1
  | .map entries => uptoBulkEntries entries + 1
  | .held _ => 1
def uptoBulkAll {H : Type} : List (DataW H) → Nat
  | [] => 0
  | d :: r => uptoBulk d + uptoBulkAll r
def uptoBulkEntries {H : Type} : List (Lit × DataW H) → Nat
  | [] => 0
  | x :: r => uptoBulkEntry x + uptoBulkEntries r
def uptoBulkEntry {H : Type} : Lit × DataW H → Nat
  | (.string bytes, d) => bytes.length + uptoBulk d + 1
  | (_, d) => uptoBulk d + 1
 end
def uptoSmall : (H : Type) → List (DataW H) → Bool := fun _ ds => decide (uptoBulkAll ds ≤ 1048576)
def OpenSpec.upto (s : _root_.Go.ChangeSpec) : _root_.Go.OpenSpec := { _root_.Go.OpenSpec.ofChange s with cond := some uptoSmall }

/-- 'loftblocklaw03.SpanNarrow', WHERE WHAT IT READS IS OF BULK AT MOST 1048576: true; the input reads as it did. -/
def spanNarrowUptoRow : OpenClaim := { program := "ytjjpjgnoanfaoaa", sum := "5ca95e10b97901ca1bd4e9178b992b39b635400e8b004a2721a93a439edc9d79", func := "loftblock/loftblocklaw03.SpanNarrow", spec := "spanNarrow", unfollowed := true, recurses := true, named := ["math/bits.divideError", "math/bits.overflowError"], apart := false, narrowed := true }
def SpanNarrowUptoSaid : Prop := spanNarrowUptoRow.holds Try.pinned (OpenSpec.upto spanNarrowSpec)

/-- 'loftblocklaw03.SpanFractions', WHERE WHAT IT READS IS OF BULK AT MOST 1048576: true; the input reads as it did. -/
def spanFractionsUptoRow : OpenClaim := { program := "ytjjpjgnoanfaoaa", sum := "5ca95e10b97901ca1bd4e9178b992b39b635400e8b004a2721a93a439edc9d79", func := "loftblock/loftblocklaw03.SpanFractions", spec := "spanFractions", named := ["math/bits.divideError", "math/bits.overflowError"], apart := false, narrowed := true }
def SpanFractionsUptoSaid : Prop := spanFractionsUptoRow.holds Try.pinned (OpenSpec.upto spanFractionsSpec)

/-- 'loftblocklaw11.StaticsTurns', WHERE WHAT IT READS IS OF BULK AT MOST 1048576: true; the input reads as it did. -/
def staticsTurnsUptoRow : OpenClaim := { program := "ytjjpjgnoanfaoaa", sum := "5ca95e10b97901ca1bd4e9178b992b39b635400e8b004a2721a93a439edc9d79", func := "loftblock/loftblocklaw11.StaticsTurns", spec := "staticsTurns", inPlace := ["math/bits.Sub64", "math/bits.Add64"], unfollowed := true, recurses := true, named := ["math/bits.divideError", "math/bits.overflowError"], apart := false, narrowed := true }
def StaticsTurnsUptoSaid : Prop := staticsTurnsUptoRow.holds Try.pinned (OpenSpec.upto staticsTurnsSpec)

/-- 'loftblocklaw11.StaticsAdds', WHERE WHAT IT READS IS OF BULK AT MOST 1048576: true; the input reads as it did. -/
def staticsAddsUptoRow : OpenClaim := { program := "ytjjpjgnoanfaoaa", sum := "5ca95e10b97901ca1bd4e9178b992b39b635400e8b004a2721a93a439edc9d79", func := "loftblock/loftblocklaw11.StaticsAdds", spec := "staticsAdds", inPlace := ["math/bits.Sub64", "math/bits.Add64"], unfollowed := true, recurses := true, named := ["math/bits.divideError", "math/bits.overflowError"], apart := false, narrowed := true }
def StaticsAddsUptoSaid : Prop := staticsAddsUptoRow.holds Try.pinned (OpenSpec.upto staticsAddsSpec)

/-- 'loftblocklaw16.MobilityOrder', WHERE WHAT IT READS IS OF BULK AT MOST 1048576: true; the input reads as it did. -/
def mobilityOrderUptoRow : OpenClaim := { program := "ytjjpjgnoanfaoaa", sum := "5ca95e10b97901ca1bd4e9178b992b39b635400e8b004a2721a93a439edc9d79", func := "loftblock/loftblocklaw16.MobilityOrder", spec := "mobilityOrder", inPlace := ["math/bits.Sub64", "math/bits.Add64"], unfollowed := true, recurses := true, named := ["math/bits.divideError", "math/bits.overflowError"], apart := false, narrowed := true }
def MobilityOrderUptoSaid : Prop := mobilityOrderUptoRow.holds Try.pinned (OpenSpec.upto mobilityOrderSpec)

/-- 'loftblocklaw13.AdvantageSame', WHERE WHAT IT READS IS OF BULK AT MOST 1048576: true; the input reads as it did. -/
def advantageSameUptoRow : OpenClaim := { program := "ytjjpjgnoanfaoaa", sum := "5ca95e10b97901ca1bd4e9178b992b39b635400e8b004a2721a93a439edc9d79", func := "loftblock/loftblocklaw13.AdvantageSame", spec := "advantageSame", inPlace := ["math/bits.Sub64", "math/bits.Add64"], unfollowed := true, recurses := true, named := ["math/bits.divideError", "math/bits.overflowError"], apart := false, narrowed := true }
def AdvantageSameUptoSaid : Prop := advantageSameUptoRow.holds Try.pinned (OpenSpec.upto advantageSameSpec)

/-- 'loftblocklaw13.AdvantageEqual', WHERE WHAT IT READS IS OF BULK AT MOST 1048576: true; the input reads as it did. -/
def advantageEqualUptoRow : OpenClaim := { program := "ytjjpjgnoanfaoaa", sum := "5ca95e10b97901ca1bd4e9178b992b39b635400e8b004a2721a93a439edc9d79", func := "loftblock/loftblocklaw13.AdvantageEqual", spec := "advantageEqual", inPlace := ["math/bits.Sub64", "math/bits.Add64"], unfollowed := true, recurses := true, named := ["math/bits.divideError", "math/bits.overflowError"], apart := false, narrowed := true }
def AdvantageEqualUptoSaid : Prop := advantageEqualUptoRow.holds Try.pinned (OpenSpec.upto advantageEqualSpec)

/-- 'loftblocklaw13.AdvantageOwn', WHERE WHAT IT READS IS OF BULK AT MOST 1048576: true; the input reads as it did. -/
def advantageOwnUptoRow : OpenClaim := { program := "ytjjpjgnoanfaoaa", sum := "5ca95e10b97901ca1bd4e9178b992b39b635400e8b004a2721a93a439edc9d79", func := "loftblock/loftblocklaw13.AdvantageOwn", spec := "advantageOwn", inPlace := ["math/bits.Sub64", "math/bits.Add64"], unfollowed := true, recurses := true, named := ["math/bits.divideError", "math/bits.overflowError"], apart := false, narrowed := true }
def AdvantageOwnUptoSaid : Prop := advantageOwnUptoRow.holds Try.pinned (OpenSpec.upto advantageOwnSpec)

/-- 'loftblocklaw13.AdvantageHolds', WHERE WHAT IT READS IS OF BULK AT MOST 1048576: true; the input reads as it did. -/
def advantageHoldsUptoRow : OpenClaim := { program := "ytjjpjgnoanfaoaa", sum := "5ca95e10b97901ca1bd4e9178b992b39b635400e8b004a2721a93a439edc9d79", func := "loftblock/loftblocklaw13.AdvantageHolds", spec := "advantageHolds", inPlace := ["math/bits.Sub64", "math/bits.Add64"], unfollowed := true, recurses := true, named := ["math/bits.divideError", "math/bits.overflowError"], apart := false, narrowed := true }
def AdvantageHoldsUptoSaid : Prop := advantageHoldsUptoRow.holds Try.pinned (OpenSpec.upto advantageHoldsSpec)

/-- 'loftblocklaw14.LossesTwice', WHERE WHAT IT READS IS OF BULK AT MOST 1048576: true; the input reads as it did. -/
def lossesTwiceUptoRow : OpenClaim := { program := "ytjjpjgnoanfaoaa", sum := "5ca95e10b97901ca1bd4e9178b992b39b635400e8b004a2721a93a439edc9d79", func := "loftblock/loftblocklaw14.LossesTwice", spec := "lossesTwice", inPlace := ["math/bits.Add64", "math/bits.Sub64"], unfollowed := true, recurses := true, named := ["math/bits.divideError", "math/bits.overflowError"], apart := false, narrowed := true }
def LossesTwiceUptoSaid : Prop := lossesTwiceUptoRow.holds Try.pinned (OpenSpec.upto lossesTwiceSpec)

/-- 'loftblocklaw14.LossesAlong', WHERE WHAT IT READS IS OF BULK AT MOST 1048576: true; the input reads as it did. -/
def lossesAlongUptoRow : OpenClaim := { program := "ytjjpjgnoanfaoaa", sum := "5ca95e10b97901ca1bd4e9178b992b39b635400e8b004a2721a93a439edc9d79", func := "loftblock/loftblocklaw14.LossesAlong", spec := "lossesAlong", inPlace := ["math/bits.Add64", "math/bits.Sub64"], unfollowed := true, recurses := true, named := ["math/bits.divideError", "math/bits.overflowError"], apart := false, narrowed := true }
def LossesAlongUptoSaid : Prop := lossesAlongUptoRow.holds Try.pinned (OpenSpec.upto lossesAlongSpec)

end Rows
end Go.Proofs.Ytjjpjgnoanfaoaa
