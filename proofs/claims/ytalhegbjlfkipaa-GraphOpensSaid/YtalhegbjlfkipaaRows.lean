/-
  No cell of these rows narrows 'for every input' (looked for: loops, veiled, ifaces, maps, wideKeys, modest, calm, conditions, laid).
  DERIVED. THE GIVEN ROWS OF THIS SEAT. 6 by the template 'for every input the law returns true; each argument reads behind the call as it read before'; 0 by the template 'total and deterministic' (their statements: YtalhegbjlfkipaaTotals.lean).
  GIVEN WITH THE SEED: the statements are not yours to turn. If you find one false, say at which input.
  Laid BY PROGRAM, IN A SANDBOX (cutbox-rows.mjs): the forced cells as the released guide's own fill.sh prints them over the translation 86cb6064f3b0ef91… (all of the seat's roots in one cut). By AI agents, Wed Nov 11 2026. No macro, syntax, notation, axiom, sorry.
-/
import Derived.Test.YtalhegbjlfkipaaChecked
import GoSem.Claim
import GoSem.ClaimJoined
import GoSem.ClaimMapViews
import Derived.JoinedTies
import Derived.KernelRfl
namespace Go.Proofs.Ytalhegbjlfkipaa
/- THE CELL 'sum', in the pinned program and in every row, IS THE sha256 OF THE DUMP (.gsa) THAT YtalhegbjlfkipaaProg.lean LOADS. Nothing in Lean hashes anything: it is a label: what it is worth is what the hold of that sum in a sandbox is worth. -/
noncomputable def Try.pinned : Pinned := { name := "ytalhegbjlfkipaa", sum := "86cb6064f3b0ef9109d6ee5a96641a592e3333a8042db0d3f827f2e70dee7459", checked := Try.checked }
namespace Rows
def none {H : Type} : Left H := { results := [], args := [] }

/-- 'loftblocklaw06.GraphBridges': WHATEVER THE INPUT: true; the input reads as it did. -/
def graphBridgesSpec : ChangeSpec := { name := "graphBridges", fn := fun _ => fun
  | [d1, d2, d3, d4] => { results := [.lit (.bool true)], args := [d1, d2, d3, d4] }
  | _ => none }
def graphBridgesRow : OpenClaim := { program := "ytalhegbjlfkipaa", sum := "86cb6064f3b0ef9109d6ee5a96641a592e3333a8042db0d3f827f2e70dee7459", func := "loftblock/loftblocklaw06.GraphBridges", spec := "graphBridges", unfollowed := true, recurses := true, apart := false }
def GraphBridgesSaid : Prop := graphBridgesRow.holds Try.pinned (OpenSpec.ofChange graphBridgesSpec)

/-- ITS FALSE NEIGHBOUR: 'it returns false'. Refute it at one input. -/
def graphBridgesWrong : ChangeSpec := { name := "graphBridges", fn := fun _ => fun
  | [d1, d2, d3, d4] => { results := [.lit (.bool false)], args := [d1, d2, d3, d4] }
  | _ => none }
def GraphBridgesWrongFalsely : Prop := graphBridgesRow.holds Try.pinned (OpenSpec.ofChange graphBridgesWrong)

/-- 'loftblocklaw06.GraphParts': WHATEVER THE INPUT: true; the input reads as it did. -/
def graphPartsSpec : ChangeSpec := { name := "graphParts", fn := fun _ => fun
  | [d1, d2] => { results := [.lit (.bool true)], args := [d1, d2] }
  | _ => none }
def graphPartsRow : OpenClaim := { program := "ytalhegbjlfkipaa", sum := "86cb6064f3b0ef9109d6ee5a96641a592e3333a8042db0d3f827f2e70dee7459", func := "loftblock/loftblocklaw06.GraphParts", spec := "graphParts", unfollowed := true, recurses := true, apart := false }
def GraphPartsSaid : Prop := graphPartsRow.holds Try.pinned (OpenSpec.ofChange graphPartsSpec)

/-- ITS FALSE NEIGHBOUR: 'it returns false'. Refute it at one input. -/
def graphPartsWrong : ChangeSpec := { name := "graphParts", fn := fun _ => fun
  | [d1, d2] => { results := [.lit (.bool false)], args := [d1, d2] }
  | _ => none }
def GraphPartsWrongFalsely : Prop := graphPartsRow.holds Try.pinned (OpenSpec.ofChange graphPartsWrong)

/-- 'loftblocklaw06.GraphPaths': WHATEVER THE INPUT: true; the input reads as it did. -/
def graphPathsSpec : ChangeSpec := { name := "graphPaths", fn := fun _ => fun
  | [d1, d2, d3, d4, d5] => { results := [.lit (.bool true)], args := [d1, d2, d3, d4, d5] }
  | _ => none }
def graphPathsRow : OpenClaim := { program := "ytalhegbjlfkipaa", sum := "86cb6064f3b0ef9109d6ee5a96641a592e3333a8042db0d3f827f2e70dee7459", func := "loftblock/loftblocklaw06.GraphPaths", spec := "graphPaths", unfollowed := true, recurses := true, apart := false }
def GraphPathsSaid : Prop := graphPathsRow.holds Try.pinned (OpenSpec.ofChange graphPathsSpec)

/-- ITS FALSE NEIGHBOUR: 'it returns false'. Refute it at one input. -/
def graphPathsWrong : ChangeSpec := { name := "graphPaths", fn := fun _ => fun
  | [d1, d2, d3, d4, d5] => { results := [.lit (.bool false)], args := [d1, d2, d3, d4, d5] }
  | _ => none }
def GraphPathsWrongFalsely : Prop := graphPathsRow.holds Try.pinned (OpenSpec.ofChange graphPathsWrong)

/-- 'loftblocklaw06.GraphCycles': WHATEVER THE INPUT: true; the input reads as it did. -/
def graphCyclesSpec : ChangeSpec := { name := "graphCycles", fn := fun _ => fun
  | [d1, d2, d3] => { results := [.lit (.bool true)], args := [d1, d2, d3] }
  | _ => none }
def graphCyclesRow : OpenClaim := { program := "ytalhegbjlfkipaa", sum := "86cb6064f3b0ef9109d6ee5a96641a592e3333a8042db0d3f827f2e70dee7459", func := "loftblock/loftblocklaw06.GraphCycles", spec := "graphCycles", unfollowed := true, recurses := true, apart := false }
def GraphCyclesSaid : Prop := graphCyclesRow.holds Try.pinned (OpenSpec.ofChange graphCyclesSpec)

/-- ITS FALSE NEIGHBOUR: 'it returns false'. Refute it at one input. -/
def graphCyclesWrong : ChangeSpec := { name := "graphCycles", fn := fun _ => fun
  | [d1, d2, d3] => { results := [.lit (.bool false)], args := [d1, d2, d3] }
  | _ => none }
def GraphCyclesWrongFalsely : Prop := graphCyclesRow.holds Try.pinned (OpenSpec.ofChange graphCyclesWrong)

/-- 'loftblocklaw06.GraphEuler': WHATEVER THE INPUT: true; the input reads as it did. -/
def graphEulerSpec : ChangeSpec := { name := "graphEuler", fn := fun _ => fun
  | [d1, d2] => { results := [.lit (.bool true)], args := [d1, d2] }
  | _ => none }
def graphEulerRow : OpenClaim := { program := "ytalhegbjlfkipaa", sum := "86cb6064f3b0ef9109d6ee5a96641a592e3333a8042db0d3f827f2e70dee7459", func := "loftblock/loftblocklaw06.GraphEuler", spec := "graphEuler", unfollowed := true, recurses := true, apart := false }
def GraphEulerSaid : Prop := graphEulerRow.holds Try.pinned (OpenSpec.ofChange graphEulerSpec)

/-- ITS FALSE NEIGHBOUR: 'it returns false'. Refute it at one input. -/
def graphEulerWrong : ChangeSpec := { name := "graphEuler", fn := fun _ => fun
  | [d1, d2] => { results := [.lit (.bool false)], args := [d1, d2] }
  | _ => none }
def GraphEulerWrongFalsely : Prop := graphEulerRow.holds Try.pinned (OpenSpec.ofChange graphEulerWrong)

/-- 'loftblocklaw06.GraphOpens': WHATEVER THE INPUT: true; the input reads as it did. -/
def graphOpensSpec : ChangeSpec := { name := "graphOpens", fn := fun _ => fun
  | [d1, d2] => { results := [.lit (.bool true)], args := [d1, d2] }
  | _ => none }
def graphOpensRow : OpenClaim := { program := "ytalhegbjlfkipaa", sum := "86cb6064f3b0ef9109d6ee5a96641a592e3333a8042db0d3f827f2e70dee7459", func := "loftblock/loftblocklaw06.GraphOpens", spec := "graphOpens", unfollowed := true, recurses := true, apart := false }
def GraphOpensSaid : Prop := graphOpensRow.holds Try.pinned (OpenSpec.ofChange graphOpensSpec)

/-- ITS FALSE NEIGHBOUR: 'it returns false'. Refute it at one input. -/
def graphOpensWrong : ChangeSpec := { name := "graphOpens", fn := fun _ => fun
  | [d1, d2] => { results := [.lit (.bool false)], args := [d1, d2] }
  | _ => none }
def GraphOpensWrongFalsely : Prop := graphOpensRow.holds Try.pinned (OpenSpec.ofChange graphOpensWrong)

/- THE SECOND FORM. 'bulk': how many values and letters a reading holds, each counted each time it is reached (what is shared counts as often as it is met; a slice's spare places count too). A statement '..UptoSaid' is the law's where the arguments, and the package variables that the reading takes, are together of bulk at most 1048576: NARROWER than '..Said'. Prove '..Said' where nothing that the law and all that it calls make is longer than what came in: it says more and counts as full. Else prove '..UptoSaid'. A law counts once. -/
mutual
def uptoBulk {H : Type} : DataW H → Nat
  | .lit (.string bytes) => bytes.length + 1
  | .lit _ => 1
  | .nil => 1
  | .ptr d => uptoBulk d + 1
  | .slice elems spare => uptoBulkAll elems + uptoBulkAll spare + 1
  | .agg parts => uptoBulkAll parts + 1
  | .iface _ d => uptoBulk d + 1
  | .map entries => uptoBulkEntries entries + 1
  | .held _ => 1
def uptoBulkAll {H : Type} : List (DataW H) → Nat
  | [] => 0
  | d :: r => uptoBulk d + uptoBulkAll r
def uptoBulkEntries {H : Type} : List (Lit × DataW H) → Nat
  | [] => 0
  | x :: r => uptoBulkEntry x + uptoBulkEntries r
def uptoBulkEntry {H : Type} : Lit × DataW H → Nat
  | (.string bytes, d) => bytes.length + uptoBulk d + 1
  | (_, d) => uptoBulk d + 1
 end
def uptoSmall : (H : Type) → List (DataW H) → Bool := fun _ ds => decide (uptoBulkAll ds ≤ 1048576)
def OpenSpec.upto (s : _root_.Go.ChangeSpec) : _root_.Go.OpenSpec := { _root_.Go.OpenSpec.ofChange s with cond := some uptoSmall }

/-- 'loftblocklaw06.GraphBridges', WHERE WHAT IT READS IS OF BULK AT MOST 1048576: true; the input reads as it did. -/
def graphBridgesUptoRow : OpenClaim := { program := "ytalhegbjlfkipaa", sum := "86cb6064f3b0ef9109d6ee5a96641a592e3333a8042db0d3f827f2e70dee7459", func := "loftblock/loftblocklaw06.GraphBridges", spec := "graphBridges", unfollowed := true, recurses := true, apart := false, narrowed := true }
def GraphBridgesUptoSaid : Prop := graphBridgesUptoRow.holds Try.pinned (OpenSpec.upto graphBridgesSpec)

/-- 'loftblocklaw06.GraphParts', WHERE WHAT IT READS IS OF BULK AT MOST 1048576: true; the input reads as it did. -/
def graphPartsUptoRow : OpenClaim := { program := "ytalhegbjlfkipaa", sum := "86cb6064f3b0ef9109d6ee5a96641a592e3333a8042db0d3f827f2e70dee7459", func := "loftblock/loftblocklaw06.GraphParts", spec := "graphParts", unfollowed := true, recurses := true, apart := false, narrowed := true }
def GraphPartsUptoSaid : Prop := graphPartsUptoRow.holds Try.pinned (OpenSpec.upto graphPartsSpec)

/-- 'loftblocklaw06.GraphPaths', WHERE WHAT IT READS IS OF BULK AT MOST 1048576: true; the input reads as it did. -/
def graphPathsUptoRow : OpenClaim := { program := "ytalhegbjlfkipaa", sum := "86cb6064f3b0ef9109d6ee5a96641a592e3333a8042db0d3f827f2e70dee7459", func := "loftblock/loftblocklaw06.GraphPaths", spec := "graphPaths", unfollowed := true, recurses := true, apart := false, narrowed := true }
def GraphPathsUptoSaid : Prop := graphPathsUptoRow.holds Try.pinned (OpenSpec.upto graphPathsSpec)

/-- 'loftblocklaw06.GraphCycles', WHERE WHAT IT READS IS OF BULK AT MOST 1048576: true; the input reads as it did. -/
def graphCyclesUptoRow : OpenClaim := { program := "ytalhegbjlfkipaa", sum := "86cb6064f3b0ef9109d6ee5a96641a592e3333a8042db0d3f827f2e70dee7459", func := "loftblock/loftblocklaw06.GraphCycles", spec := "graphCycles", unfollowed := true, recurses := true, apart := false, narrowed := true }
def GraphCyclesUptoSaid : Prop := graphCyclesUptoRow.holds Try.pinned (OpenSpec.upto graphCyclesSpec)

/-- 'loftblocklaw06.GraphEuler', WHERE WHAT IT READS IS OF BULK AT MOST 1048576: true; the input reads as it did. -/
def graphEulerUptoRow : OpenClaim := { program := "ytalhegbjlfkipaa", sum := "86cb6064f3b0ef9109d6ee5a96641a592e3333a8042db0d3f827f2e70dee7459", func := "loftblock/loftblocklaw06.GraphEuler", spec := "graphEuler", unfollowed := true, recurses := true, apart := false, narrowed := true }
def GraphEulerUptoSaid : Prop := graphEulerUptoRow.holds Try.pinned (OpenSpec.upto graphEulerSpec)

/-- 'loftblocklaw06.GraphOpens', WHERE WHAT IT READS IS OF BULK AT MOST 1048576: true; the input reads as it did. -/
def graphOpensUptoRow : OpenClaim := { program := "ytalhegbjlfkipaa", sum := "86cb6064f3b0ef9109d6ee5a96641a592e3333a8042db0d3f827f2e70dee7459", func := "loftblock/loftblocklaw06.GraphOpens", spec := "graphOpens", unfollowed := true, recurses := true, apart := false, narrowed := true }
def GraphOpensUptoSaid : Prop := graphOpensUptoRow.holds Try.pinned (OpenSpec.upto graphOpensSpec)

end Rows
end Go.Proofs.Ytalhegbjlfkipaa
