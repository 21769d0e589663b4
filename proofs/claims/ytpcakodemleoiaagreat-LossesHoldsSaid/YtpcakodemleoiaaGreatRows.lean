/-
  No cell of these rows narrows 'for every input' (looked for: loops, veiled, ifaces, maps, wideKeys, modest, calm, conditions, laid).
  DERIVED. THE GIVEN ROWS OF THIS SEAT. 6 by the template 'for every input the law returns true; each argument reads behind the call as it read before'; 0 by the template 'total and deterministic' (their statements: YtpcakodemleoiaaGreatTotals.lean).
  GIVEN WITH THE SEED: the statements are not yours to turn. If you find one false, say at which input.
  Laid BY PROGRAM, IN A SANDBOX (cutbox-rows.mjs): the forced cells as the released guide's own fill.sh prints them over the translation e0bde6b6789e440d… (all of the seat's roots in one cut). By AI agents, Wed Nov 11 2026. No macro, syntax, notation, axiom, sorry.
-/
import Derived.Test.YtpcakodemleoiaaGreatChecked
import GoSem.Claim
import GoSem.ClaimJoined
import GoSem.ClaimMapViews
import Derived.JoinedTies
import Derived.KernelRfl
namespace Go.Proofs.YtpcakodemleoiaaGreat
/- THE CELL 'sum', in the pinned program and in every row, IS THE sha256 OF THE DUMP (.gsa) THAT YtpcakodemleoiaaGreatProg.lean LOADS. Nothing in Lean hashes anything: it is a label: what it is worth is what the hold of that sum in a sandbox is worth. -/
noncomputable def Tryz.pinned : Pinned := { name := "ytpcakodemleoiaagreat", sum := "e0bde6b6789e440dcb1ccd1433845984505496528dc18824d554ce44238c1730", checked := Tryz.checked }
namespace Rows
def none {H : Type} : Left H := { results := [], args := [] }

/-- 'loftblocklaw14.LossesCarry': WHATEVER THE INPUT: true; the input reads as it did. -/
def lossesCarrySpec : ChangeSpec := { name := "lossesCarry", fn := fun _ => fun
  | [d1, d2] => { results := [.lit (.bool true)], args := [d1, d2] }
  | _ => none }
def lossesCarryRow : OpenClaim := { program := "ytpcakodemleoiaagreat", sum := "e0bde6b6789e440dcb1ccd1433845984505496528dc18824d554ce44238c1730", func := "loftblock/loftblocklaw14.LossesCarry", spec := "lossesCarry", inPlace := ["math/bits.Add64", "math/bits.Sub64"], unfollowed := true, recurses := true, named := ["math/bits.divideError", "math/bits.overflowError"], apart := false }
def LossesCarrySaid : Prop := lossesCarryRow.holds Tryz.pinned (OpenSpec.ofChange lossesCarrySpec)

/-- ITS FALSE NEIGHBOUR: 'it returns false'. Refute it at one input. -/
def lossesCarryWrong : ChangeSpec := { name := "lossesCarry", fn := fun _ => fun
  | [d1, d2] => { results := [.lit (.bool false)], args := [d1, d2] }
  | _ => none }
def LossesCarryWrongFalsely : Prop := lossesCarryRow.holds Tryz.pinned (OpenSpec.ofChange lossesCarryWrong)

/-- 'loftblocklaw14.LossesForces': WHATEVER THE INPUT: true; the input reads as it did. -/
def lossesForcesSpec : ChangeSpec := { name := "lossesForces", fn := fun _ => fun
  | [d1, d2] => { results := [.lit (.bool true)], args := [d1, d2] }
  | _ => none }
def lossesForcesRow : OpenClaim := { program := "ytpcakodemleoiaagreat", sum := "e0bde6b6789e440dcb1ccd1433845984505496528dc18824d554ce44238c1730", func := "loftblock/loftblocklaw14.LossesForces", spec := "lossesForces", inPlace := ["math/bits.Add64", "math/bits.Sub64"], unfollowed := true, recurses := true, named := ["math/bits.divideError", "math/bits.overflowError"], apart := false }
def LossesForcesSaid : Prop := lossesForcesRow.holds Tryz.pinned (OpenSpec.ofChange lossesForcesSpec)

/-- ITS FALSE NEIGHBOUR: 'it returns false'. Refute it at one input. -/
def lossesForcesWrong : ChangeSpec := { name := "lossesForces", fn := fun _ => fun
  | [d1, d2] => { results := [.lit (.bool false)], args := [d1, d2] }
  | _ => none }
def LossesForcesWrongFalsely : Prop := lossesForcesRow.holds Tryz.pinned (OpenSpec.ofChange lossesForcesWrong)

/-- 'loftblocklaw14.LossesOrder': WHATEVER THE INPUT: true; the input reads as it did. -/
def lossesOrderSpec : ChangeSpec := { name := "lossesOrder", fn := fun _ => fun
  | [d1, d2, d3] => { results := [.lit (.bool true)], args := [d1, d2, d3] }
  | _ => none }
def lossesOrderRow : OpenClaim := { program := "ytpcakodemleoiaagreat", sum := "e0bde6b6789e440dcb1ccd1433845984505496528dc18824d554ce44238c1730", func := "loftblock/loftblocklaw14.LossesOrder", spec := "lossesOrder", inPlace := ["math/bits.Add64", "math/bits.Sub64"], unfollowed := true, recurses := true, named := ["math/bits.divideError", "math/bits.overflowError"], apart := false }
def LossesOrderSaid : Prop := lossesOrderRow.holds Tryz.pinned (OpenSpec.ofChange lossesOrderSpec)

/-- ITS FALSE NEIGHBOUR: 'it returns false'. Refute it at one input. -/
def lossesOrderWrong : ChangeSpec := { name := "lossesOrder", fn := fun _ => fun
  | [d1, d2, d3] => { results := [.lit (.bool false)], args := [d1, d2, d3] }
  | _ => none }
def LossesOrderWrongFalsely : Prop := lossesOrderRow.holds Tryz.pinned (OpenSpec.ofChange lossesOrderWrong)

/-- 'loftblocklaw14.LossesHolds': WHATEVER THE INPUT: true; the input reads as it did. -/
def lossesHoldsSpec : ChangeSpec := { name := "lossesHolds", fn := fun _ => fun
  | [d1, d2] => { results := [.lit (.bool true)], args := [d1, d2] }
  | _ => none }
def lossesHoldsRow : OpenClaim := { program := "ytpcakodemleoiaagreat", sum := "e0bde6b6789e440dcb1ccd1433845984505496528dc18824d554ce44238c1730", func := "loftblock/loftblocklaw14.LossesHolds", spec := "lossesHolds", inPlace := ["math/bits.Add64", "math/bits.Sub64"], unfollowed := true, recurses := true, named := ["math/bits.divideError", "math/bits.overflowError"], apart := false }
def LossesHoldsSaid : Prop := lossesHoldsRow.holds Tryz.pinned (OpenSpec.ofChange lossesHoldsSpec)

/-- ITS FALSE NEIGHBOUR: 'it returns false'. Refute it at one input. -/
def lossesHoldsWrong : ChangeSpec := { name := "lossesHolds", fn := fun _ => fun
  | [d1, d2] => { results := [.lit (.bool false)], args := [d1, d2] }
  | _ => none }
def LossesHoldsWrongFalsely : Prop := lossesHoldsRow.holds Tryz.pinned (OpenSpec.ofChange lossesHoldsWrong)

/-- 'loftblocklaw14.LossesExact': WHATEVER THE INPUT: true; the input reads as it did. -/
def lossesExactSpec : ChangeSpec := { name := "lossesExact", fn := fun _ => fun
  | [d1, d2] => { results := [.lit (.bool true)], args := [d1, d2] }
  | _ => none }
def lossesExactRow : OpenClaim := { program := "ytpcakodemleoiaagreat", sum := "e0bde6b6789e440dcb1ccd1433845984505496528dc18824d554ce44238c1730", func := "loftblock/loftblocklaw14.LossesExact", spec := "lossesExact", inPlace := ["math/bits.Add64", "math/bits.Sub64"], unfollowed := true, recurses := true, named := ["math/bits.divideError", "math/bits.overflowError"], apart := false }
def LossesExactSaid : Prop := lossesExactRow.holds Tryz.pinned (OpenSpec.ofChange lossesExactSpec)

/-- ITS FALSE NEIGHBOUR: 'it returns false'. Refute it at one input. -/
def lossesExactWrong : ChangeSpec := { name := "lossesExact", fn := fun _ => fun
  | [d1, d2] => { results := [.lit (.bool false)], args := [d1, d2] }
  | _ => none }
def LossesExactWrongFalsely : Prop := lossesExactRow.holds Tryz.pinned (OpenSpec.ofChange lossesExactWrong)

/-- 'loftblocklaw14.LossesNone': WHATEVER THE INPUT: true; the input reads as it did. -/
def lossesNoneSpec : ChangeSpec := { name := "lossesNone", fn := fun _ => fun
  | [d] => { results := [.lit (.bool true)], args := [d] }
  | _ => none }
def lossesNoneRow : OpenClaim := { program := "ytpcakodemleoiaagreat", sum := "e0bde6b6789e440dcb1ccd1433845984505496528dc18824d554ce44238c1730", func := "loftblock/loftblocklaw14.LossesNone", spec := "lossesNone", inPlace := ["math/bits.Add64", "math/bits.Sub64"], unfollowed := true, recurses := true, named := ["math/bits.divideError", "math/bits.overflowError"], apart := false }
def LossesNoneSaid : Prop := lossesNoneRow.holds Tryz.pinned (OpenSpec.ofChange lossesNoneSpec)

/-- ITS FALSE NEIGHBOUR: 'it returns false'. Refute it at one input. -/
def lossesNoneWrong : ChangeSpec := { name := "lossesNone", fn := fun _ => fun
  | [d] => { results := [.lit (.bool false)], args := [d] }
  | _ => none }
def LossesNoneWrongFalsely : Prop := lossesNoneRow.holds Tryz.pinned (OpenSpec.ofChange lossesNoneWrong)

/- THE SECOND FORM. 'bulk': how many values and letters a reading holds, each counted each time it is reached (what is shared counts as often as it is met; a slice's spare places count too). A statement '..UptoSaid' is the law's where the arguments, and the package variables that the reading takes, are together of bulk at most 1048576: NARROWER than '..Said'. Prove '..Said' where nothing that the law and all that it calls make is longer than what came in: it says more and counts as full. Else prove '..UptoSaid'. A law counts once. -/
mutual
def uptoBulk {H : Type} : DataW H → Nat
  | .lit (.string bytes) => bytes.length + 1
  | .lit _ => 1
  | .nil => 1
  | .ptr d => uptoBulk d + 1
  | .slice elems spare => uptoBulkAll elems + uptoBulkAll spare + 1
  | .agg parts => uptoBulkAll parts + 1
  | .iface _ d => uptoBulk d + 1
  | .map entries => uptoBulkEntries entries + 1
  | .held _ => 1
def uptoBulkAll {H : Type} : List (DataW H) → Nat
  | [] => 0
  | d :: r => uptoBulk d + uptoBulkAll r
def uptoBulkEntries {H : Type} : List (Lit × DataW H) → Nat
  | [] => 0
  | x :: r => uptoBulkEntry x + uptoBulkEntries r
def uptoBulkEntry {H : Type} : Lit × DataW H → Nat
  | (.string bytes, d) => bytes.length + uptoBulk d + 1
  | (_, d) => uptoBulk d + 1
 end
def uptoSmall : (H : Type) → List (DataW H) → Bool := fun _ ds => decide (uptoBulkAll ds ≤ 1048576)
def OpenSpec.upto (s : _root_.Go.ChangeSpec) : _root_.Go.OpenSpec := { _root_.Go.OpenSpec.ofChange s with cond := some uptoSmall }

/-- 'loftblocklaw14.LossesCarry', WHERE WHAT IT READS IS OF BULK AT MOST 1048576: true; the input reads as it did. -/
def lossesCarryUptoRow : OpenClaim := { program := "ytpcakodemleoiaagreat", sum := "e0bde6b6789e440dcb1ccd1433845984505496528dc18824d554ce44238c1730", func := "loftblock/loftblocklaw14.LossesCarry", spec := "lossesCarry", inPlace := ["math/bits.Add64", "math/bits.Sub64"], unfollowed := true, recurses := true, named := ["math/bits.divideError", "math/bits.overflowError"], apart := false, narrowed := true }
def LossesCarryUptoSaid : Prop := lossesCarryUptoRow.holds Tryz.pinned (OpenSpec.upto lossesCarrySpec)

/-- 'loftblocklaw14.LossesForces', WHERE WHAT IT READS IS OF BULK AT MOST 1048576: true; the input reads as it did. -/
def lossesForcesUptoRow : OpenClaim := { program := "ytpcakodemleoiaagreat", sum := "e0bde6b6789e440dcb1ccd1433845984505496528dc18824d554ce44238c1730", func := "loftblock/loftblocklaw14.LossesForces", spec := "lossesForces", inPlace := ["math/bits.Add64", "math/bits.Sub64"], unfollowed := true, recurses := true, named := ["math/bits.divideError", "math/bits.overflowError"], apart := false, narrowed := true }
def LossesForcesUptoSaid : Prop := lossesForcesUptoRow.holds Tryz.pinned (OpenSpec.upto lossesForcesSpec)

/-- 'loftblocklaw14.LossesOrder', WHERE WHAT IT READS IS OF BULK AT MOST 1048576: true; the input reads as it did. -/
def lossesOrderUptoRow : OpenClaim := { program := "ytpcakodemleoiaagreat", sum := "e0bde6b6789e440dcb1ccd1433845984505496528dc18824d554ce44238c1730", func := "loftblock/loftblocklaw14.LossesOrder", spec := "lossesOrder", inPlace := ["math/bits.Add64", "math/bits.Sub64"], unfollowed := true, recurses := true, named := ["math/bits.divideError", "math/bits.overflowError"], apart := false, narrowed := true }
def LossesOrderUptoSaid : Prop := lossesOrderUptoRow.holds Tryz.pinned (OpenSpec.upto lossesOrderSpec)

/-- 'loftblocklaw14.LossesHolds', WHERE WHAT IT READS IS OF BULK AT MOST 1048576: true; the input reads as it did. -/
def lossesHoldsUptoRow : OpenClaim := { program := "ytpcakodemleoiaagreat", sum := "e0bde6b6789e440dcb1ccd1433845984505496528dc18824d554ce44238c1730", func := "loftblock/loftblocklaw14.LossesHolds", spec := "lossesHolds", inPlace := ["math/bits.Add64", "math/bits.Sub64"], unfollowed := true, recurses := true, named := ["math/bits.divideError", "math/bits.overflowError"], apart := false, narrowed := true }
def LossesHoldsUptoSaid : Prop := lossesHoldsUptoRow.holds Tryz.pinned (OpenSpec.upto lossesHoldsSpec)

/-- 'loftblocklaw14.LossesExact', WHERE WHAT IT READS IS OF BULK AT MOST 1048576: true; the input reads as it did. -/
def lossesExactUptoRow : OpenClaim := { program := "ytpcakodemleoiaagreat", sum := "e0bde6b6789e440dcb1ccd1433845984505496528dc18824d554ce44238c1730", func := "loftblock/loftblocklaw14.LossesExact", spec := "lossesExact", inPlace := ["math/bits.Add64", "math/bits.Sub64"], unfollowed := true, recurses := true, named := ["math/bits.divideError", "math/bits.overflowError"], apart := false, narrowed := true }
def LossesExactUptoSaid : Prop := lossesExactUptoRow.holds Tryz.pinned (OpenSpec.upto lossesExactSpec)

/-- 'loftblocklaw14.LossesNone', WHERE WHAT IT READS IS OF BULK AT MOST 1048576: true; the input reads as it did. -/
def lossesNoneUptoRow : OpenClaim := { program := "ytpcakodemleoiaagreat", sum := "e0bde6b6789e440dcb1ccd1433845984505496528dc18824d554ce44238c1730", func := "loftblock/loftblocklaw14.LossesNone", spec := "lossesNone", inPlace := ["math/bits.Add64", "math/bits.Sub64"], unfollowed := true, recurses := true, named := ["math/bits.divideError", "math/bits.overflowError"], apart := false, narrowed := true }
def LossesNoneUptoSaid : Prop := lossesNoneUptoRow.holds Tryz.pinned (OpenSpec.upto lossesNoneSpec)

end Rows
end Go.Proofs.YtpcakodemleoiaaGreat
