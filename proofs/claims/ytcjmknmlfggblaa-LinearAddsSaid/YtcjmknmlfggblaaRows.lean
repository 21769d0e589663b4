/-
  No cell of these rows narrows 'for every input' (looked for: loops, veiled, ifaces, maps, wideKeys, modest, calm, conditions, laid).
  DERIVED. THE GIVEN ROWS OF THIS SEAT. 7 by the template 'for every input the law returns true; each argument reads behind the call as it read before'; 0 by the template 'total and deterministic' (their statements: YtcjmknmlfggblaaTotals.lean).
  GIVEN WITH THE SEED: the statements are not yours to turn. If you find one false, say at which input.
  Laid BY PROGRAM, IN A SANDBOX (cutbox-rows.mjs): the forced cells as the released guide's own fill.sh prints them over the translation 4af1d62b35a65d03… (all of the seat's roots in one cut). By AI agents, Wed Nov 11 2026. No macro, syntax, notation, axiom, sorry.
-/
import Derived.Test.YtcjmknmlfggblaaChecked
import GoSem.Claim
import GoSem.ClaimJoined
import GoSem.ClaimMapViews
import Derived.JoinedTies
import Derived.KernelRfl
namespace Go.Proofs.Ytcjmknmlfggblaa
/- THE CELL 'sum', in the pinned program and in every row, IS THE sha256 OF THE DUMP (.gsa) THAT YtcjmknmlfggblaaProg.lean LOADS. Nothing in Lean hashes anything: it is a label: what it is worth is what the hold of that sum in a sandbox is worth. -/
noncomputable def Try.pinned : Pinned := { name := "ytcjmknmlfggblaa", sum := "4af1d62b35a65d03c7c2e6d3044c7d9662ea35a12860e6c03d739b8c32159a31", checked := Try.checked }
namespace Rows
def none {H : Type} : Left H := { results := [], args := [] }

/-- 'loftblocklaw04.LinearAdds': WHATEVER THE INPUT: true; the input reads as it did. -/
def linearAddsSpec : ChangeSpec := { name := "linearAdds", fn := fun _ => fun
  | [d1, d2, d3, d4, d5] => { results := [.lit (.bool true)], args := [d1, d2, d3, d4, d5] }
  | _ => none }
def linearAddsRow : OpenClaim := { program := "ytcjmknmlfggblaa", sum := "4af1d62b35a65d03c7c2e6d3044c7d9662ea35a12860e6c03d739b8c32159a31", func := "loftblock/loftblocklaw04.LinearAdds", spec := "linearAdds", inPlace := ["math/bits.Sub64", "math/bits.Add64"], unfollowed := true, recurses := true, named := ["math/bits.divideError", "math/bits.overflowError"], apart := false }
def LinearAddsSaid : Prop := linearAddsRow.holds Try.pinned (OpenSpec.ofChange linearAddsSpec)

/-- ITS FALSE NEIGHBOUR: 'it returns false'. Refute it at one input. -/
def linearAddsWrong : ChangeSpec := { name := "linearAdds", fn := fun _ => fun
  | [d1, d2, d3, d4, d5] => { results := [.lit (.bool false)], args := [d1, d2, d3, d4, d5] }
  | _ => none }
def LinearAddsWrongFalsely : Prop := linearAddsRow.holds Try.pinned (OpenSpec.ofChange linearAddsWrong)

/-- 'loftblocklaw04.LinearTurned': WHATEVER THE INPUT: true; the input reads as it did. -/
def linearTurnedSpec : ChangeSpec := { name := "linearTurned", fn := fun _ => fun
  | [d1, d2, d3] => { results := [.lit (.bool true)], args := [d1, d2, d3] }
  | _ => none }
def linearTurnedRow : OpenClaim := { program := "ytcjmknmlfggblaa", sum := "4af1d62b35a65d03c7c2e6d3044c7d9662ea35a12860e6c03d739b8c32159a31", func := "loftblock/loftblocklaw04.LinearTurned", spec := "linearTurned", inPlace := ["math/bits.Sub64", "math/bits.Add64"], unfollowed := true, recurses := true, named := ["math/bits.divideError", "math/bits.overflowError"], apart := false }
def LinearTurnedSaid : Prop := linearTurnedRow.holds Try.pinned (OpenSpec.ofChange linearTurnedSpec)

/-- ITS FALSE NEIGHBOUR: 'it returns false'. Refute it at one input. -/
def linearTurnedWrong : ChangeSpec := { name := "linearTurned", fn := fun _ => fun
  | [d1, d2, d3] => { results := [.lit (.bool false)], args := [d1, d2, d3] }
  | _ => none }
def LinearTurnedWrongFalsely : Prop := linearTurnedRow.holds Try.pinned (OpenSpec.ofChange linearTurnedWrong)

/-- 'loftblocklaw04.LinearSolves': WHATEVER THE INPUT: true; the input reads as it did. -/
def linearSolvesSpec : ChangeSpec := { name := "linearSolves", fn := fun _ => fun
  | [d1, d2] => { results := [.lit (.bool true)], args := [d1, d2] }
  | _ => none }
def linearSolvesRow : OpenClaim := { program := "ytcjmknmlfggblaa", sum := "4af1d62b35a65d03c7c2e6d3044c7d9662ea35a12860e6c03d739b8c32159a31", func := "loftblock/loftblocklaw04.LinearSolves", spec := "linearSolves", inPlace := ["math/bits.Sub64", "math/bits.Add64"], unfollowed := true, recurses := true, named := ["math/bits.divideError", "math/bits.overflowError"], apart := false }
def LinearSolvesSaid : Prop := linearSolvesRow.holds Try.pinned (OpenSpec.ofChange linearSolvesSpec)

/-- ITS FALSE NEIGHBOUR: 'it returns false'. Refute it at one input. -/
def linearSolvesWrong : ChangeSpec := { name := "linearSolves", fn := fun _ => fun
  | [d1, d2] => { results := [.lit (.bool false)], args := [d1, d2] }
  | _ => none }
def LinearSolvesWrongFalsely : Prop := linearSolvesRow.holds Try.pinned (OpenSpec.ofChange linearSolvesWrong)

/-- 'loftblocklaw04.LinearRanks': WHATEVER THE INPUT: true; the input reads as it did. -/
def linearRanksSpec : ChangeSpec := { name := "linearRanks", fn := fun _ => fun
  | [d] => { results := [.lit (.bool true)], args := [d] }
  | _ => none }
def linearRanksRow : OpenClaim := { program := "ytcjmknmlfggblaa", sum := "4af1d62b35a65d03c7c2e6d3044c7d9662ea35a12860e6c03d739b8c32159a31", func := "loftblock/loftblocklaw04.LinearRanks", spec := "linearRanks", inPlace := ["math/bits.Sub64", "math/bits.Add64"], unfollowed := true, recurses := true, named := ["math/bits.divideError", "math/bits.overflowError"], apart := false }
def LinearRanksSaid : Prop := linearRanksRow.holds Try.pinned (OpenSpec.ofChange linearRanksSpec)

/-- ITS FALSE NEIGHBOUR: 'it returns false'. Refute it at one input. -/
def linearRanksWrong : ChangeSpec := { name := "linearRanks", fn := fun _ => fun
  | [d] => { results := [.lit (.bool false)], args := [d] }
  | _ => none }
def LinearRanksWrongFalsely : Prop := linearRanksRow.holds Try.pinned (OpenSpec.ofChange linearRanksWrong)

/-- 'loftblocklaw04.LinearDepends': WHATEVER THE INPUT: true; the input reads as it did. -/
def linearDependsSpec : ChangeSpec := { name := "linearDepends", fn := fun _ => fun
  | [d] => { results := [.lit (.bool true)], args := [d] }
  | _ => none }
def linearDependsRow : OpenClaim := { program := "ytcjmknmlfggblaa", sum := "4af1d62b35a65d03c7c2e6d3044c7d9662ea35a12860e6c03d739b8c32159a31", func := "loftblock/loftblocklaw04.LinearDepends", spec := "linearDepends", inPlace := ["math/bits.Sub64", "math/bits.Add64"], unfollowed := true, recurses := true, named := ["math/bits.divideError", "math/bits.overflowError"], apart := false }
def LinearDependsSaid : Prop := linearDependsRow.holds Try.pinned (OpenSpec.ofChange linearDependsSpec)

/-- ITS FALSE NEIGHBOUR: 'it returns false'. Refute it at one input. -/
def linearDependsWrong : ChangeSpec := { name := "linearDepends", fn := fun _ => fun
  | [d] => { results := [.lit (.bool false)], args := [d] }
  | _ => none }
def LinearDependsWrongFalsely : Prop := linearDependsRow.holds Try.pinned (OpenSpec.ofChange linearDependsWrong)

/-- 'loftblocklaw04.LinearProducts': WHATEVER THE INPUT: true; the input reads as it did. -/
def linearProductsSpec : ChangeSpec := { name := "linearProducts", fn := fun _ => fun
  | [d1, d2] => { results := [.lit (.bool true)], args := [d1, d2] }
  | _ => none }
def linearProductsRow : OpenClaim := { program := "ytcjmknmlfggblaa", sum := "4af1d62b35a65d03c7c2e6d3044c7d9662ea35a12860e6c03d739b8c32159a31", func := "loftblock/loftblocklaw04.LinearProducts", spec := "linearProducts", inPlace := ["math/bits.Sub64", "math/bits.Add64"], unfollowed := true, recurses := true, named := ["math/bits.divideError", "math/bits.overflowError"], apart := false }
def LinearProductsSaid : Prop := linearProductsRow.holds Try.pinned (OpenSpec.ofChange linearProductsSpec)

/-- ITS FALSE NEIGHBOUR: 'it returns false'. Refute it at one input. -/
def linearProductsWrong : ChangeSpec := { name := "linearProducts", fn := fun _ => fun
  | [d1, d2] => { results := [.lit (.bool false)], args := [d1, d2] }
  | _ => none }
def LinearProductsWrongFalsely : Prop := linearProductsRow.holds Try.pinned (OpenSpec.ofChange linearProductsWrong)

/-- 'loftblocklaw04.LinearHolds': WHATEVER THE INPUT: true; the input reads as it did. -/
def linearHoldsSpec : ChangeSpec := { name := "linearHolds", fn := fun _ => fun
  | [d1, d2] => { results := [.lit (.bool true)], args := [d1, d2] }
  | _ => none }
def linearHoldsRow : OpenClaim := { program := "ytcjmknmlfggblaa", sum := "4af1d62b35a65d03c7c2e6d3044c7d9662ea35a12860e6c03d739b8c32159a31", func := "loftblock/loftblocklaw04.LinearHolds", spec := "linearHolds", inPlace := ["math/bits.Sub64", "math/bits.Add64"], unfollowed := true, recurses := true, named := ["math/bits.divideError", "math/bits.overflowError"], apart := false }
def LinearHoldsSaid : Prop := linearHoldsRow.holds Try.pinned (OpenSpec.ofChange linearHoldsSpec)

/-- ITS FALSE NEIGHBOUR: 'it returns false'. Refute it at one input. -/
def linearHoldsWrong : ChangeSpec := { name := "linearHolds", fn := fun _ => fun
  | [d1, d2] => { results := [.lit (.bool false)], args := [d1, d2] }
  | _ => none }
def LinearHoldsWrongFalsely : Prop := linearHoldsRow.holds Try.pinned (OpenSpec.ofChange linearHoldsWrong)

/- THE SECOND FORM. 'bulk': how many values and letters a reading holds, each counted each time it is reached (what is shared counts as often as it is met; a slice's spare places count too). A statement '..UptoSaid' is the law's where the arguments, and the package variables that the reading takes, are together of bulk at most 1048576: NARROWER than '..Said'. Prove '..Said' where nothing that the law and all that it calls make is longer than what came in: it says more and counts as full. Else prove '..UptoSaid'. A law counts once. -/
mutual
def uptoBulk {H : Type} : DataW H → Nat
  | .lit (.string bytes) => bytes.length + 1
  | .lit _ => 1
  | .nil => 1
  | .ptr d => uptoBulk d + 1
  | .slice elems spare => uptoBulkAll elems + uptoBulkAll spare + 1
  | .agg parts => uptoBulkAll parts + 1
  | .iface _ d => uptoBulk d + 1
  | .map entries => uptoBulkEntries entries + 1
  | .held _ => 1
def uptoBulkAll {H : Type} : List (DataW H) → Nat
  | [] => 0
  | d :: r => uptoBulk d + uptoBulkAll r
def uptoBulkEntries {H : Type} : List (Lit × DataW H) → Nat
  | [] => 0
  | x :: r => uptoBulkEntry x + uptoBulkEntries r
def uptoBulkEntry {H : Type} : Lit × DataW H → Nat
  | (.string bytes, d) => bytes.length + uptoBulk d + 1
  | (_, d) => uptoBulk d + 1
 end
def uptoSmall : (H : Type) → List (DataW H) → Bool := fun _ ds => decide (uptoBulkAll ds ≤ 1048576)
def OpenSpec.upto (s : _root_.Go.ChangeSpec) : _root_.Go.OpenSpec := { _root_.Go.OpenSpec.ofChange s with cond := some uptoSmall }

/-- 'loftblocklaw04.LinearAdds', WHERE WHAT IT READS IS OF BULK AT MOST 1048576: true; the input reads as it did. -/
def linearAddsUptoRow : OpenClaim := { program := "ytcjmknmlfggblaa", sum := "4af1d62b35a65d03c7c2e6d3044c7d9662ea35a12860e6c03d739b8c32159a31", func := "loftblock/loftblocklaw04.LinearAdds", spec := "linearAdds", inPlace := ["math/bits.Sub64", "math/bits.Add64"], unfollowed := true, recurses := true, named := ["math/bits.divideError", "math/bits.overflowError"], apart := false, narrowed := true }
def LinearAddsUptoSaid : Prop := linearAddsUptoRow.holds Try.pinned (OpenSpec.upto linearAddsSpec)

/-- 'loftblocklaw04.LinearTurned', WHERE WHAT IT READS IS OF BULK AT MOST 1048576: true; the input reads as it did. -/
def linearTurnedUptoRow : OpenClaim := { program := "ytcjmknmlfggblaa", sum := "4af1d62b35a65d03c7c2e6d3044c7d9662ea35a12860e6c03d739b8c32159a31", func := "loftblock/loftblocklaw04.LinearTurned", spec := "linearTurned", inPlace := ["math/bits.Sub64", "math/bits.Add64"], unfollowed := true, recurses := true, named := ["math/bits.divideError", "math/bits.overflowError"], apart := false, narrowed := true }
def LinearTurnedUptoSaid : Prop := linearTurnedUptoRow.holds Try.pinned (OpenSpec.upto linearTurnedSpec)

/-- 'loftblocklaw04.LinearSolves', WHERE WHAT IT READS IS OF BULK AT MOST 1048576: true; the input reads as it did. -/
def linearSolvesUptoRow : OpenClaim := { program := "ytcjmknmlfggblaa", sum := "4af1d62b35a65d03c7c2e6d3044c7d9662ea35a12860e6c03d739b8c32159a31", func := "loftblock/loftblocklaw04.LinearSolves", spec := "linearSolves", inPlace := ["math/bits.Sub64", "math/bits.Add64"], unfollowed := true, recurses := true, named := ["math/bits.divideError", "math/bits.overflowError"], apart := false, narrowed := true }
def LinearSolvesUptoSaid : Prop := linearSolvesUptoRow.holds Try.pinned (OpenSpec.upto linearSolvesSpec)

/-- 'loftblocklaw04.LinearRanks', WHERE WHAT IT READS IS OF BULK AT MOST 1048576: true; the input reads as it did. -/
def linearRanksUptoRow : OpenClaim := { program := "ytcjmknmlfggblaa", sum := "4af1d62b35a65d03c7c2e6d3044c7d9662ea35a12860e6c03d739b8c32159a31", func := "loftblock/loftblocklaw04.LinearRanks", spec := "linearRanks", inPlace := ["math/bits.Sub64", "math/bits.Add64"], unfollowed := true, recurses := true, named := ["math/bits.divideError", "math/bits.overflowError"], apart := false, narrowed := true }
def LinearRanksUptoSaid : Prop := linearRanksUptoRow.holds Try.pinned (OpenSpec.upto linearRanksSpec)

/-- 'loftblocklaw04.LinearDepends', WHERE WHAT IT READS IS OF BULK AT MOST 1048576: true; the input reads as it did. -/
def linearDependsUptoRow : OpenClaim := { program := "ytcjmknmlfggblaa", sum := "4af1d62b35a65d03c7c2e6d3044c7d9662ea35a12860e6c03d739b8c32159a31", func := "loftblock/loftblocklaw04.LinearDepends", spec := "linearDepends", inPlace := ["math/bits.Sub64", "math/bits.Add64"], unfollowed := true, recurses := true, named := ["math/bits.divideError", "math/bits.overflowError"], apart := false, narrowed := true }
def LinearDependsUptoSaid : Prop := linearDependsUptoRow.holds Try.pinned (OpenSpec.upto linearDependsSpec)

/-- 'loftblocklaw04.LinearProducts', WHERE WHAT IT READS IS OF BULK AT MOST 1048576: true; the input reads as it did. -/
def linearProductsUptoRow : OpenClaim := { program := "ytcjmknmlfggblaa", sum := "4af1d62b35a65d03c7c2e6d3044c7d9662ea35a12860e6c03d739b8c32159a31", func := "loftblock/loftblocklaw04.LinearProducts", spec := "linearProducts", inPlace := ["math/bits.Sub64", "math/bits.Add64"], unfollowed := true, recurses := true, named := ["math/bits.divideError", "math/bits.overflowError"], apart := false, narrowed := true }
def LinearProductsUptoSaid : Prop := linearProductsUptoRow.holds Try.pinned (OpenSpec.upto linearProductsSpec)

/-- 'loftblocklaw04.LinearHolds', WHERE WHAT IT READS IS OF BULK AT MOST 1048576: true; the input reads as it did. -/
def linearHoldsUptoRow : OpenClaim := { program := "ytcjmknmlfggblaa", sum := "4af1d62b35a65d03c7c2e6d3044c7d9662ea35a12860e6c03d739b8c32159a31", func := "loftblock/loftblocklaw04.LinearHolds", spec := "linearHolds", inPlace := ["math/bits.Sub64", "math/bits.Add64"], unfollowed := true, recurses := true, named := ["math/bits.divideError", "math/bits.overflowError"], apart := false, narrowed := true }
def LinearHoldsUptoSaid : Prop := linearHoldsUptoRow.holds Try.pinned (OpenSpec.upto linearHoldsSpec)

end Rows
end Go.Proofs.Ytcjmknmlfggblaa
