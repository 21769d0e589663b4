/-
  No cell of these rows narrows 'for every input' (looked for: loops, veiled, ifaces, maps, wideKeys, modest, calm, conditions, laid).
  DERIVED. THE GIVEN ROWS OF THIS SEAT. 4 by the template 'for every input the law returns true; each argument reads behind the call as it read before'; 0 by the template 'total and deterministic' (their statements: YtifmgjieplmbnaaGreatTotals.lean).
  GIVEN WITH THE SEED: the statements are not yours to turn. If you find one false, say at which input.
  Laid BY PROGRAM, IN A SANDBOX (cutbox-rows.mjs): the forced cells as the released guide's own fill.sh prints them over the translation 4abb3bd765c964be… (all of the seat's roots in one cut). By AI agents, Wed Nov 11 2026. No macro, syntax, notation, axiom, sorry.
-/
import Derived.Test.YtifmgjieplmbnaaGreatChecked
import GoSem.Claim
import GoSem.ClaimJoined
import GoSem.ClaimMapViews
import Derived.JoinedTies
import Derived.KernelRfl
namespace Go.Proofs.YtifmgjieplmbnaaGreat
/- THE CELL 'sum', in the pinned program and in every row, IS THE sha256 OF THE DUMP (.gsa) THAT YtifmgjieplmbnaaGreatProg.lean LOADS. Nothing in Lean hashes anything: it is a label: what it is worth is what the hold of that sum in a sandbox is worth. -/
noncomputable def Tryz.pinned : Pinned := { name := "ytifmgjieplmbnaagreat", sum := "4abb3bd765c964be7b8e78b8882788703781ceae225d8d606d9877b62e258146", checked := Tryz.checked }
namespace Rows
def none {H : Type} : Left H := { results := [], args := [] }

/-- 'loftblocklaw16.MobilityModes': WHATEVER THE INPUT: true; the input reads as it did. -/
def mobilityModesSpec : ChangeSpec := { name := "mobilityModes", fn := fun _ => fun
  | [d] => { results := [.lit (.bool true)], args := [d] }
  | _ => none }
def mobilityModesRow : OpenClaim := { program := "ytifmgjieplmbnaagreat", sum := "4abb3bd765c964be7b8e78b8882788703781ceae225d8d606d9877b62e258146", func := "loftblock/loftblocklaw16.MobilityModes", spec := "mobilityModes", inPlace := ["math/bits.Sub64", "math/bits.Add64"], unfollowed := true, recurses := true, named := ["math/bits.divideError", "math/bits.overflowError"], apart := false }
def MobilityModesSaid : Prop := mobilityModesRow.holds Tryz.pinned (OpenSpec.ofChange mobilityModesSpec)

/-- ITS FALSE NEIGHBOUR: 'it returns false'. Refute it at one input. -/
def mobilityModesWrong : ChangeSpec := { name := "mobilityModes", fn := fun _ => fun
  | [d] => { results := [.lit (.bool false)], args := [d] }
  | _ => none }
def MobilityModesWrongFalsely : Prop := mobilityModesRow.holds Tryz.pinned (OpenSpec.ofChange mobilityModesWrong)

/-- 'loftblocklaw16.MobilityRedundant': WHATEVER THE INPUT: true; the input reads as it did. -/
def mobilityRedundantSpec : ChangeSpec := { name := "mobilityRedundant", fn := fun _ => fun
  | [d1, d2] => { results := [.lit (.bool true)], args := [d1, d2] }
  | _ => none }
def mobilityRedundantRow : OpenClaim := { program := "ytifmgjieplmbnaagreat", sum := "4abb3bd765c964be7b8e78b8882788703781ceae225d8d606d9877b62e258146", func := "loftblock/loftblocklaw16.MobilityRedundant", spec := "mobilityRedundant", inPlace := ["math/bits.Sub64", "math/bits.Add64"], unfollowed := true, recurses := true, named := ["math/bits.divideError", "math/bits.overflowError"], apart := false }
def MobilityRedundantSaid : Prop := mobilityRedundantRow.holds Tryz.pinned (OpenSpec.ofChange mobilityRedundantSpec)

/-- ITS FALSE NEIGHBOUR: 'it returns false'. Refute it at one input. -/
def mobilityRedundantWrong : ChangeSpec := { name := "mobilityRedundant", fn := fun _ => fun
  | [d1, d2] => { results := [.lit (.bool false)], args := [d1, d2] }
  | _ => none }
def MobilityRedundantWrongFalsely : Prop := mobilityRedundantRow.holds Tryz.pinned (OpenSpec.ofChange mobilityRedundantWrong)

/-- 'loftblocklaw12.MotionTravels': WHATEVER THE INPUT: true; the input reads as it did. -/
def motionTravelsSpec : ChangeSpec := { name := "motionTravels", fn := fun _ => fun
  | [d1, d2] => { results := [.lit (.bool true)], args := [d1, d2] }
  | _ => none }
def motionTravelsRow : OpenClaim := { program := "ytifmgjieplmbnaagreat", sum := "4abb3bd765c964be7b8e78b8882788703781ceae225d8d606d9877b62e258146", func := "loftblock/loftblocklaw12.MotionTravels", spec := "motionTravels", inPlace := ["math/bits.Sub64", "math/bits.Add64"], unfollowed := true, recurses := true, named := ["math/bits.divideError", "math/bits.overflowError"], apart := false }
def MotionTravelsSaid : Prop := motionTravelsRow.holds Tryz.pinned (OpenSpec.ofChange motionTravelsSpec)

/-- ITS FALSE NEIGHBOUR: 'it returns false'. Refute it at one input. -/
def motionTravelsWrong : ChangeSpec := { name := "motionTravels", fn := fun _ => fun
  | [d1, d2] => { results := [.lit (.bool false)], args := [d1, d2] }
  | _ => none }
def MotionTravelsWrongFalsely : Prop := motionTravelsRow.holds Tryz.pinned (OpenSpec.ofChange motionTravelsWrong)

/-- 'loftblocklaw12.MotionChecks': WHATEVER THE INPUT: true; the input reads as it did. -/
def motionChecksSpec : ChangeSpec := { name := "motionChecks", fn := fun _ => fun
  | [d1, d2, d3, d4] => { results := [.lit (.bool true)], args := [d1, d2, d3, d4] }
  | _ => none }
def motionChecksRow : OpenClaim := { program := "ytifmgjieplmbnaagreat", sum := "4abb3bd765c964be7b8e78b8882788703781ceae225d8d606d9877b62e258146", func := "loftblock/loftblocklaw12.MotionChecks", spec := "motionChecks", inPlace := ["math/bits.Sub64", "math/bits.Add64"], unfollowed := true, recurses := true, named := ["math/bits.divideError", "math/bits.overflowError"], apart := false }
def MotionChecksSaid : Prop := motionChecksRow.holds Tryz.pinned (OpenSpec.ofChange motionChecksSpec)

/-- ITS FALSE NEIGHBOUR: 'it returns false'. Refute it at one input. -/
def motionChecksWrong : ChangeSpec := { name := "motionChecks", fn := fun _ => fun
  | [d1, d2, d3, d4] => { results := [.lit (.bool false)], args := [d1, d2, d3, d4] }
  | _ => none }
def MotionChecksWrongFalsely : Prop := motionChecksRow.holds Tryz.pinned (OpenSpec.ofChange motionChecksWrong)

/- THE SECOND FORM. 'bulk': how many values and letters a reading holds, each counted each time it is reached (what is shared counts as often as it is met; a slice's spare places count too). A statement '..UptoSaid' is the law's where the arguments, and the package variables that the reading takes, are together of bulk at most 1048576: NARROWER than '..Said'. Prove '..Said' where nothing that the law and all that it calls make is longer than what came in: it says more and counts as full. Else prove '..UptoSaid'. A law counts once. -/
mutual
def uptoBulk {H : Type} : DataW H → Nat
  | .lit (.string bytes) => bytes.length + 1
  | .lit _ => 1
  | .nil => 1
  | .ptr d => uptoBulk d + 1
  | .slice elems spare => uptoBulkAll elems + uptoBulkAll spare + 1
  | .agg parts => uptoBulkAll parts + 1
  | .iface _ d => uptoBulk d + 1
  | .map entries => uptoBulkEntries entries + 1
  | .held _ => 1
def uptoBulkAll {H : Type} : List (DataW H) → Nat
  | [] => 0
  | d :: r => uptoBulk d + uptoBulkAll r
def uptoBulkEntries {H : Type} : List (Lit × DataW H) → Nat
  | [] => 0
  | x :: r => uptoBulkEntry x + uptoBulkEntries r
def uptoBulkEntry {H : Type} : Lit × DataW H → Nat
  | (.string bytes, d) => bytes.length + uptoBulk d + 1
  | (_, d) => uptoBulk d + 1
 end
def uptoSmall : (H : Type) → List (DataW H) → Bool := fun _ ds => decide (uptoBulkAll ds ≤ 1048576)
def OpenSpec.upto (s : _root_.Go.ChangeSpec) : _root_.Go.OpenSpec := { _root_.Go.OpenSpec.ofChange s with cond := some uptoSmall }

/-- 'loftblocklaw16.MobilityModes', WHERE WHAT IT READS IS OF BULK AT MOST 1048576: true; the input reads as it did. -/
def mobilityModesUptoRow : OpenClaim := { program := "ytifmgjieplmbnaagreat", sum := "4abb3bd765c964be7b8e78b8882788703781ceae225d8d606d9877b62e258146", func := "loftblock/loftblocklaw16.MobilityModes", spec := "mobilityModes", inPlace := ["math/bits.Sub64", "math/bits.Add64"], unfollowed := true, recurses := true, named := ["math/bits.divideError", "math/bits.overflowError"], apart := false, narrowed := true }
def MobilityModesUptoSaid : Prop := mobilityModesUptoRow.holds Tryz.pinned (OpenSpec.upto mobilityModesSpec)

/-- 'loftblocklaw16.MobilityRedundant', WHERE WHAT IT READS IS OF BULK AT MOST 1048576: true; the input reads as it did. -/
def mobilityRedundantUptoRow : OpenClaim := { program := "ytifmgjieplmbnaagreat", sum := "4abb3bd765c964be7b8e78b8882788703781ceae225d8d606d9877b62e258146", func := "loftblock/loftblocklaw16.MobilityRedundant", spec := "mobilityRedundant", inPlace := ["math/bits.Sub64", "math/bits.Add64"], unfollowed := true, recurses := true, named := ["math/bits.divideError", "math/bits.overflowError"], apart := false, narrowed := true }
def MobilityRedundantUptoSaid : Prop := mobilityRedundantUptoRow.holds Tryz.pinned (OpenSpec.upto mobilityRedundantSpec)

/-- 'loftblocklaw12.MotionTravels', WHERE WHAT IT READS IS OF BULK AT MOST 1048576: true; the input reads as it did. -/
def motionTravelsUptoRow : OpenClaim := { program := "ytifmgjieplmbnaagreat", sum := "4abb3bd765c964be7b8e78b8882788703781ceae225d8d606d9877b62e258146", func := "loftblock/loftblocklaw12.MotionTravels", spec := "motionTravels", inPlace := ["math/bits.Sub64", "math/bits.Add64"], unfollowed := true, recurses := true, named := ["math/bits.divideError", "math/bits.overflowError"], apart := false, narrowed := true }
def MotionTravelsUptoSaid : Prop := motionTravelsUptoRow.holds Tryz.pinned (OpenSpec.upto motionTravelsSpec)

/-- 'loftblocklaw12.MotionChecks', WHERE WHAT IT READS IS OF BULK AT MOST 1048576: true; the input reads as it did. -/
def motionChecksUptoRow : OpenClaim := { program := "ytifmgjieplmbnaagreat", sum := "4abb3bd765c964be7b8e78b8882788703781ceae225d8d606d9877b62e258146", func := "loftblock/loftblocklaw12.MotionChecks", spec := "motionChecks", inPlace := ["math/bits.Sub64", "math/bits.Add64"], unfollowed := true, recurses := true, named := ["math/bits.divideError", "math/bits.overflowError"], apart := false, narrowed := true }
def MotionChecksUptoSaid : Prop := motionChecksUptoRow.holds Tryz.pinned (OpenSpec.upto motionChecksSpec)

end Rows
end Go.Proofs.YtifmgjieplmbnaaGreat
