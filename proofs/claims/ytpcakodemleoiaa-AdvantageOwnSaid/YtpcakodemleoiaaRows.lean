/-
  No cell of these rows narrows 'for every input' (looked for: loops, veiled, ifaces, maps, wideKeys, modest, calm, conditions, laid).
  DERIVED. THE GIVEN ROWS OF THIS SEAT. 4 by the template 'for every input the law returns true; each argument reads behind the call as it read before'; 0 by the template 'total and deterministic' (their statements: YtpcakodemleoiaaTotals.lean).
  GIVEN WITH THE SEED: the statements are not yours to turn. If you find one false, say at which input.
  Laid BY PROGRAM, IN A SANDBOX (cutbox-rows.mjs): the forced cells as the released guide's own fill.sh prints them over the translation d8e19ffb1717e023… (all of the seat's roots in one cut). By AI agents, Wed Nov 11 2026. No macro, syntax, notation, axiom, sorry.
-/
import Derived.Test.YtpcakodemleoiaaChecked
import GoSem.Claim
import GoSem.ClaimJoined
import GoSem.ClaimMapViews
import Derived.JoinedTies
import Derived.KernelRfl
namespace Go.Proofs.Ytpcakodemleoiaa
/- THE CELL 'sum', in the pinned program and in every row, IS THE sha256 OF THE DUMP (.gsa) THAT YtpcakodemleoiaaProg.lean LOADS. Nothing in Lean hashes anything: it is a label: what it is worth is what the hold of that sum in a sandbox is worth. -/
noncomputable def Try.pinned : Pinned := { name := "ytpcakodemleoiaa", sum := "d8e19ffb1717e02332c3afcaea0d676c92f29429a348e159a15d281fc607cded", checked := Try.checked }
namespace Rows
def none {H : Type} : Left H := { results := [], args := [] }

/-- 'loftblocklaw11.StaticsTurns': WHATEVER THE INPUT: true; the input reads as it did. -/
def staticsTurnsSpec : ChangeSpec := { name := "staticsTurns", fn := fun _ => fun
  | [d1, d2] => { results := [.lit (.bool true)], args := [d1, d2] }
  | _ => none }
def staticsTurnsRow : OpenClaim := { program := "ytpcakodemleoiaa", sum := "d8e19ffb1717e02332c3afcaea0d676c92f29429a348e159a15d281fc607cded", func := "loftblock/loftblocklaw11.StaticsTurns", spec := "staticsTurns", inPlace := ["math/bits.Sub64", "math/bits.Add64"], unfollowed := true, recurses := true, named := ["math/bits.divideError", "math/bits.overflowError"], apart := false }
def StaticsTurnsSaid : Prop := staticsTurnsRow.holds Try.pinned (OpenSpec.ofChange staticsTurnsSpec)

/-- ITS FALSE NEIGHBOUR: 'it returns false'. Refute it at one input. -/
def staticsTurnsWrong : ChangeSpec := { name := "staticsTurns", fn := fun _ => fun
  | [d1, d2] => { results := [.lit (.bool false)], args := [d1, d2] }
  | _ => none }
def StaticsTurnsWrongFalsely : Prop := staticsTurnsRow.holds Try.pinned (OpenSpec.ofChange staticsTurnsWrong)

/-- 'loftblocklaw13.AdvantageOwn': WHATEVER THE INPUT: true; the input reads as it did. -/
def advantageOwnSpec : ChangeSpec := { name := "advantageOwn", fn := fun _ => fun
  | [d1, d2, d3] => { results := [.lit (.bool true)], args := [d1, d2, d3] }
  | _ => none }
def advantageOwnRow : OpenClaim := { program := "ytpcakodemleoiaa", sum := "d8e19ffb1717e02332c3afcaea0d676c92f29429a348e159a15d281fc607cded", func := "loftblock/loftblocklaw13.AdvantageOwn", spec := "advantageOwn", inPlace := ["math/bits.Sub64", "math/bits.Add64"], unfollowed := true, recurses := true, named := ["math/bits.divideError", "math/bits.overflowError"], apart := false }
def AdvantageOwnSaid : Prop := advantageOwnRow.holds Try.pinned (OpenSpec.ofChange advantageOwnSpec)

/-- ITS FALSE NEIGHBOUR: 'it returns false'. Refute it at one input. -/
def advantageOwnWrong : ChangeSpec := { name := "advantageOwn", fn := fun _ => fun
  | [d1, d2, d3] => { results := [.lit (.bool false)], args := [d1, d2, d3] }
  | _ => none }
def AdvantageOwnWrongFalsely : Prop := advantageOwnRow.holds Try.pinned (OpenSpec.ofChange advantageOwnWrong)

/-- 'loftblocklaw14.LossesTwice': WHATEVER THE INPUT: true; the input reads as it did. -/
def lossesTwiceSpec : ChangeSpec := { name := "lossesTwice", fn := fun _ => fun
  | [d] => { results := [.lit (.bool true)], args := [d] }
  | _ => none }
def lossesTwiceRow : OpenClaim := { program := "ytpcakodemleoiaa", sum := "d8e19ffb1717e02332c3afcaea0d676c92f29429a348e159a15d281fc607cded", func := "loftblock/loftblocklaw14.LossesTwice", spec := "lossesTwice", inPlace := ["math/bits.Add64", "math/bits.Sub64"], unfollowed := true, recurses := true, named := ["math/bits.divideError", "math/bits.overflowError"], apart := false }
def LossesTwiceSaid : Prop := lossesTwiceRow.holds Try.pinned (OpenSpec.ofChange lossesTwiceSpec)

/-- ITS FALSE NEIGHBOUR: 'it returns false'. Refute it at one input. -/
def lossesTwiceWrong : ChangeSpec := { name := "lossesTwice", fn := fun _ => fun
  | [d] => { results := [.lit (.bool false)], args := [d] }
  | _ => none }
def LossesTwiceWrongFalsely : Prop := lossesTwiceRow.holds Try.pinned (OpenSpec.ofChange lossesTwiceWrong)

/-- 'loftblocklaw14.LossesAlong': WHATEVER THE INPUT: true; the input reads as it did. -/
def lossesAlongSpec : ChangeSpec := { name := "lossesAlong", fn := fun _ => fun
  | [d1, d2] => { results := [.lit (.bool true)], args := [d1, d2] }
  | _ => none }
def lossesAlongRow : OpenClaim := { program := "ytpcakodemleoiaa", sum := "d8e19ffb1717e02332c3afcaea0d676c92f29429a348e159a15d281fc607cded", func := "loftblock/loftblocklaw14.LossesAlong", spec := "lossesAlong", inPlace := ["math/bits.Add64", "math/bits.Sub64"], unfollowed := true, recurses := true, named := ["math/bits.divideError", "math/bits.overflowError"], apart := false }
def LossesAlongSaid : Prop := lossesAlongRow.holds Try.pinned (OpenSpec.ofChange lossesAlongSpec)

/-- ITS FALSE NEIGHBOUR: 'it returns false'. Refute it at one input. -/
def lossesAlongWrong : ChangeSpec := { name := "lossesAlong", fn := fun _ => fun
  | [d1, d2] => { results := [.lit (.bool false)], args := [d1, d2] }
  | _ => none }
def LossesAlongWrongFalsely : Prop := lossesAlongRow.holds Try.pinned (OpenSpec.ofChange lossesAlongWrong)

/- THE SECOND FORM. 'bulk': how many values and letters a reading holds, each counted each time it is reached (what is shared counts as often as it is met; a slice's spare places count too). A statement '..UptoSaid' is the law's where the arguments, and the package variables that the reading takes, are together of bulk at most 1048576: NARROWER than '..Said'. Prove '..Said' where nothing that the law and all that it calls make is longer than what came in: it says more and counts as full. Else prove '..UptoSaid'. A law counts once. -/
mutual
def uptoBulk {H : Type} : DataW H → Nat
  | .lit (.string bytes) => bytes.length + 1
  | .lit _ => 1
  | .nil => 1
  | .ptr d => uptoBulk d + 1
  | .slice elems spare => uptoBulkAll elems + uptoBulkAll spare + 1
  | .agg parts => uptoBulkAll parts + 1
  | .iface _ d => uptoBulk d + 1
  | .map entries => uptoBulkEntries entries + 1
  | .held _ => 1
def uptoBulkAll {H : Type} : List (DataW H) → Nat
  | [] => 0
  | d :: r => uptoBulk d + uptoBulkAll r
def uptoBulkEntries {H : Type} : List (Lit × DataW H) → Nat
  | [] => 0
  | x :: r => uptoBulkEntry x + uptoBulkEntries r
def uptoBulkEntry {H : Type} : Lit × DataW H → Nat
  | (.string bytes, d) => bytes.length + uptoBulk d + 1
  | (_, d) => uptoBulk d + 1
 end
def uptoSmall : (H : Type) → List (DataW H) → Bool := fun _ ds => decide (uptoBulkAll ds ≤ 1048576)
def OpenSpec.upto (s : _root_.Go.ChangeSpec) : _root_.Go.OpenSpec := { _root_.Go.OpenSpec.ofChange s with cond := some uptoSmall }

/-- 'loftblocklaw11.StaticsTurns', WHERE WHAT IT READS IS OF BULK AT MOST 1048576: true; the input reads as it did. -/
def staticsTurnsUptoRow : OpenClaim := { program := "ytpcakodemleoiaa", sum := "d8e19ffb1717e02332c3afcaea0d676c92f29429a348e159a15d281fc607cded", func := "loftblock/loftblocklaw11.StaticsTurns", spec := "staticsTurns", inPlace := ["math/bits.Sub64", "math/bits.Add64"], unfollowed := true, recurses := true, named := ["math/bits.divideError", "math/bits.overflowError"], apart := false, narrowed := true }
def StaticsTurnsUptoSaid : Prop := staticsTurnsUptoRow.holds Try.pinned (OpenSpec.upto staticsTurnsSpec)

/-- 'loftblocklaw13.AdvantageOwn', WHERE WHAT IT READS IS OF BULK AT MOST 1048576: true; the input reads as it did. -/
def advantageOwnUptoRow : OpenClaim := { program := "ytpcakodemleoiaa", sum := "d8e19ffb1717e02332c3afcaea0d676c92f29429a348e159a15d281fc607cded", func := "loftblock/loftblocklaw13.AdvantageOwn", spec := "advantageOwn", inPlace := ["math/bits.Sub64", "math/bits.Add64"], unfollowed := true, recurses := true, named := ["math/bits.divideError", "math/bits.overflowError"], apart := false, narrowed := true }
def AdvantageOwnUptoSaid : Prop := advantageOwnUptoRow.holds Try.pinned (OpenSpec.upto advantageOwnSpec)

/-- 'loftblocklaw14.LossesTwice', WHERE WHAT IT READS IS OF BULK AT MOST 1048576: true; the input reads as it did. -/
def lossesTwiceUptoRow : OpenClaim := { program := "ytpcakodemleoiaa", sum := "d8e19ffb1717e02332c3afcaea0d676c92f29429a348e159a15d281fc607cded", func := "loftblock/loftblocklaw14.LossesTwice", spec := "lossesTwice", inPlace := ["math/bits.Add64", "math/bits.Sub64"], unfollowed := true, recurses := true, named := ["math/bits.divideError", "math/bits.overflowError"], apart := false, narrowed := true }
def LossesTwiceUptoSaid : Prop := lossesTwiceUptoRow.holds Try.pinned (OpenSpec.upto lossesTwiceSpec)

/-- 'loftblocklaw14.LossesAlong', WHERE WHAT IT READS IS OF BULK AT MOST 1048576: true; the input reads as it did. -/
def lossesAlongUptoRow : OpenClaim := { program := "ytpcakodemleoiaa", sum := "d8e19ffb1717e02332c3afcaea0d676c92f29429a348e159a15d281fc607cded", func := "loftblock/loftblocklaw14.LossesAlong", spec := "lossesAlong", inPlace := ["math/bits.Add64", "math/bits.Sub64"], unfollowed := true, recurses := true, named := ["math/bits.divideError", "math/bits.overflowError"], apart := false, narrowed := true }
def LossesAlongUptoSaid : Prop := lossesAlongUptoRow.holds Try.pinned (OpenSpec.upto lossesAlongSpec)

end Rows
end Go.Proofs.Ytpcakodemleoiaa
