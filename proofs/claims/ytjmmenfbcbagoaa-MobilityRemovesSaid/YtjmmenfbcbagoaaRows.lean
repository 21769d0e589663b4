/-
  No cell of these rows narrows 'for every input' (looked for: loops, veiled, ifaces, maps, wideKeys, modest, calm, conditions, laid).
  DERIVED. THE GIVEN ROWS OF THIS SEAT. 6 by the template 'for every input the law returns true; each argument reads behind the call as it read before'; 0 by the template 'total and deterministic' (their statements: YtjmmenfbcbagoaaTotals.lean).
  GIVEN WITH THE SEED: the statements are not yours to turn. If you find one false, say at which input.
  Laid BY PROGRAM, IN A SANDBOX (cutbox-rows.mjs): the forced cells as the released guide's own fill.sh prints them over the translation 09ca1e54510c5a81… (all of the seat's roots in one cut). By AI agents, Wed Nov 11 2026. No macro, syntax, notation, axiom, sorry.
-/
import Derived.Test.YtjmmenfbcbagoaaChecked
import GoSem.Claim
import GoSem.ClaimJoined
import GoSem.ClaimMapViews
import Derived.JoinedTies
import Derived.KernelRfl
namespace Go.Proofs.Ytjmmenfbcbagoaa
/- THE CELL 'sum', in the pinned program and in every row, IS THE sha256 OF THE DUMP (.gsa) THAT YtjmmenfbcbagoaaProg.lean LOADS. Nothing in Lean hashes anything: it is a label: what it is worth is what the hold of that sum in a sandbox is worth. -/
noncomputable def Try.pinned : Pinned := { name := "ytjmmenfbcbagoaa", sum := "09ca1e54510c5a81b5bf670fd1a34379dc00ea1cda71fb5ae154314d7fcae198", checked := Try.checked }
namespace Rows
def none {H : Type} : Left H := { results := [], args := [] }

/-- 'loftblocklaw11.StaticsTurns': WHATEVER THE INPUT: true; the input reads as it did. -/
def staticsTurnsSpec : ChangeSpec := { name := "staticsTurns", fn := fun _ => fun
  | [d1, d2] => { results := [.lit (.bool true)], args := [d1, d2] }
  | _ => none }
def staticsTurnsRow : OpenClaim := { program := "ytjmmenfbcbagoaa", sum := "09ca1e54510c5a81b5bf670fd1a34379dc00ea1cda71fb5ae154314d7fcae198", func := "loftblock/loftblocklaw11.StaticsTurns", spec := "staticsTurns", inPlace := ["math/bits.Sub64", "math/bits.Add64"], unfollowed := true, recurses := true, named := ["math/bits.divideError", "math/bits.overflowError"], apart := false }
def StaticsTurnsSaid : Prop := staticsTurnsRow.holds Try.pinned (OpenSpec.ofChange staticsTurnsSpec)

/-- ITS FALSE NEIGHBOUR: 'it returns false'. Refute it at one input. -/
def staticsTurnsWrong : ChangeSpec := { name := "staticsTurns", fn := fun _ => fun
  | [d1, d2] => { results := [.lit (.bool false)], args := [d1, d2] }
  | _ => none }
def StaticsTurnsWrongFalsely : Prop := staticsTurnsRow.holds Try.pinned (OpenSpec.ofChange staticsTurnsWrong)

/-- 'loftblocklaw11.StaticsAdds': WHATEVER THE INPUT: true; the input reads as it did. -/
def staticsAddsSpec : ChangeSpec := { name := "staticsAdds", fn := fun _ => fun
  | [d1, d2] => { results := [.lit (.bool true)], args := [d1, d2] }
  | _ => none }
def staticsAddsRow : OpenClaim := { program := "ytjmmenfbcbagoaa", sum := "09ca1e54510c5a81b5bf670fd1a34379dc00ea1cda71fb5ae154314d7fcae198", func := "loftblock/loftblocklaw11.StaticsAdds", spec := "staticsAdds", inPlace := ["math/bits.Sub64", "math/bits.Add64"], unfollowed := true, recurses := true, named := ["math/bits.divideError", "math/bits.overflowError"], apart := false }
def StaticsAddsSaid : Prop := staticsAddsRow.holds Try.pinned (OpenSpec.ofChange staticsAddsSpec)

/-- ITS FALSE NEIGHBOUR: 'it returns false'. Refute it at one input. -/
def staticsAddsWrong : ChangeSpec := { name := "staticsAdds", fn := fun _ => fun
  | [d1, d2] => { results := [.lit (.bool false)], args := [d1, d2] }
  | _ => none }
def StaticsAddsWrongFalsely : Prop := staticsAddsRow.holds Try.pinned (OpenSpec.ofChange staticsAddsWrong)

/-- 'loftblocklaw16.MobilityProves': WHATEVER THE INPUT: true; the input reads as it did. -/
def mobilityProvesSpec : ChangeSpec := { name := "mobilityProves", fn := fun _ => fun
  | [d] => { results := [.lit (.bool true)], args := [d] }
  | _ => none }
def mobilityProvesRow : OpenClaim := { program := "ytjmmenfbcbagoaa", sum := "09ca1e54510c5a81b5bf670fd1a34379dc00ea1cda71fb5ae154314d7fcae198", func := "loftblock/loftblocklaw16.MobilityProves", spec := "mobilityProves", inPlace := ["math/bits.Sub64", "math/bits.Add64"], unfollowed := true, recurses := true, named := ["math/bits.divideError", "math/bits.overflowError"], apart := false }
def MobilityProvesSaid : Prop := mobilityProvesRow.holds Try.pinned (OpenSpec.ofChange mobilityProvesSpec)

/-- ITS FALSE NEIGHBOUR: 'it returns false'. Refute it at one input. -/
def mobilityProvesWrong : ChangeSpec := { name := "mobilityProves", fn := fun _ => fun
  | [d] => { results := [.lit (.bool false)], args := [d] }
  | _ => none }
def MobilityProvesWrongFalsely : Prop := mobilityProvesRow.holds Try.pinned (OpenSpec.ofChange mobilityProvesWrong)

/-- 'loftblocklaw16.MobilityWithout': WHATEVER THE INPUT: true; the input reads as it did. -/
def mobilityWithoutSpec : ChangeSpec := { name := "mobilityWithout", fn := fun _ => fun
  | [d1, d2] => { results := [.lit (.bool true)], args := [d1, d2] }
  | _ => none }
def mobilityWithoutRow : OpenClaim := { program := "ytjmmenfbcbagoaa", sum := "09ca1e54510c5a81b5bf670fd1a34379dc00ea1cda71fb5ae154314d7fcae198", func := "loftblock/loftblocklaw16.MobilityWithout", spec := "mobilityWithout", inPlace := ["math/bits.Sub64", "math/bits.Add64"], unfollowed := true, recurses := true, named := ["math/bits.divideError", "math/bits.overflowError"], apart := false }
def MobilityWithoutSaid : Prop := mobilityWithoutRow.holds Try.pinned (OpenSpec.ofChange mobilityWithoutSpec)

/-- ITS FALSE NEIGHBOUR: 'it returns false'. Refute it at one input. -/
def mobilityWithoutWrong : ChangeSpec := { name := "mobilityWithout", fn := fun _ => fun
  | [d1, d2] => { results := [.lit (.bool false)], args := [d1, d2] }
  | _ => none }
def MobilityWithoutWrongFalsely : Prop := mobilityWithoutRow.holds Try.pinned (OpenSpec.ofChange mobilityWithoutWrong)

/-- 'loftblocklaw16.MobilityOrder': WHATEVER THE INPUT: true; the input reads as it did. -/
def mobilityOrderSpec : ChangeSpec := { name := "mobilityOrder", fn := fun _ => fun
  | [d1, d2] => { results := [.lit (.bool true)], args := [d1, d2] }
  | _ => none }
def mobilityOrderRow : OpenClaim := { program := "ytjmmenfbcbagoaa", sum := "09ca1e54510c5a81b5bf670fd1a34379dc00ea1cda71fb5ae154314d7fcae198", func := "loftblock/loftblocklaw16.MobilityOrder", spec := "mobilityOrder", inPlace := ["math/bits.Sub64", "math/bits.Add64"], unfollowed := true, recurses := true, named := ["math/bits.divideError", "math/bits.overflowError"], apart := false }
def MobilityOrderSaid : Prop := mobilityOrderRow.holds Try.pinned (OpenSpec.ofChange mobilityOrderSpec)

/-- ITS FALSE NEIGHBOUR: 'it returns false'. Refute it at one input. -/
def mobilityOrderWrong : ChangeSpec := { name := "mobilityOrder", fn := fun _ => fun
  | [d1, d2] => { results := [.lit (.bool false)], args := [d1, d2] }
  | _ => none }
def MobilityOrderWrongFalsely : Prop := mobilityOrderRow.holds Try.pinned (OpenSpec.ofChange mobilityOrderWrong)

/-- 'loftblocklaw16.MobilityRemoves': WHATEVER THE INPUT: true; the input reads as it did. -/
def mobilityRemovesSpec : ChangeSpec := { name := "mobilityRemoves", fn := fun _ => fun
  | [d1, d2] => { results := [.lit (.bool true)], args := [d1, d2] }
  | _ => none }
def mobilityRemovesRow : OpenClaim := { program := "ytjmmenfbcbagoaa", sum := "09ca1e54510c5a81b5bf670fd1a34379dc00ea1cda71fb5ae154314d7fcae198", func := "loftblock/loftblocklaw16.MobilityRemoves", spec := "mobilityRemoves", inPlace := ["math/bits.Sub64", "math/bits.Add64"], unfollowed := true, recurses := true, named := ["math/bits.divideError", "math/bits.overflowError"], apart := false }
def MobilityRemovesSaid : Prop := mobilityRemovesRow.holds Try.pinned (OpenSpec.ofChange mobilityRemovesSpec)

/-- ITS FALSE NEIGHBOUR: 'it returns false'. Refute it at one input. -/
def mobilityRemovesWrong : ChangeSpec := { name := "mobilityRemoves", fn := fun _ => fun
  | [d1, d2] => { results := [.lit (.bool false)], args := [d1, d2] }
  | _ => none }
def MobilityRemovesWrongFalsely : Prop := mobilityRemovesRow.holds Try.pinned (OpenSpec.ofChange mobilityRemovesWrong)

/- THE SECOND FORM. 'bulk': how many values and letters a reading holds, each counted each time it is reached (what is shared counts as often as it is met; a slice's spare places count too). A statement '..UptoSaid' is the law's where the arguments, and the package variables that the reading takes, are together of bulk at most 1048576: NARROWER than '..Said'. Prove '..Said' where nothing that the law and all that it calls make is longer than what came in: it says more and counts as full. Else prove '..UptoSaid'. A law counts once. -/
mutual
def uptoBulk {H : Type} : DataW H → Nat
  | .lit (.string bytes) => bytes.length + 1
  | .lit _ => 1
  | .nil => 1
  | .ptr d => uptoBulk d + 1
  | .slice elems spare => uptoBulkAll elems + uptoBulkAll spare + 1
  | .agg parts => uptoBulkAll parts + 1
  | .iface _ d => uptoBulk d + 1
  | .map entries => uptoBulkEntries entries + 1
  | .held _ => 1
def uptoBulkAll {H : Type} : List (DataW H) → Nat
  | [] => 0
  | d :: r => uptoBulk d + uptoBulkAll r
def uptoBulkEntries {H : Type} : List (Lit × DataW H) → Nat
  | [] => 0
  | x :: r => uptoBulkEntry x + uptoBulkEntries r
def uptoBulkEntry {H : Type} : Lit × DataW H → Nat
  | (.string bytes, d) => bytes.length + uptoBulk d + 1
  | (_, d) => uptoBulk d + 1
 end
def uptoSmall : (H : Type) → List (DataW H) → Bool := fun _ ds => decide (uptoBulkAll ds ≤ 1048576)
def OpenSpec.upto (s : _root_.Go.ChangeSpec) : _root_.Go.OpenSpec := { _root_.Go.OpenSpec.ofChange s with cond := some uptoSmall }

/-- 'loftblocklaw11.StaticsTurns', WHERE WHAT IT READS IS OF BULK AT MOST 1048576: true; the input reads as it did. -/
def staticsTurnsUptoRow : OpenClaim := { program := "ytjmmenfbcbagoaa", sum := "09ca1e54510c5a81b5bf670fd1a34379dc00ea1cda71fb5ae154314d7fcae198", func := "loftblock/loftblocklaw11.StaticsTurns", spec := "staticsTurns", inPlace := ["math/bits.Sub64", "math/bits.Add64"], unfollowed := true, recurses := true, named := ["math/bits.divideError", "math/bits.overflowError"], apart := false, narrowed := true }
def StaticsTurnsUptoSaid : Prop := staticsTurnsUptoRow.holds Try.pinned (OpenSpec.upto staticsTurnsSpec)

/-- 'loftblocklaw11.StaticsAdds', WHERE WHAT IT READS IS OF BULK AT MOST 1048576: true; the input reads as it did. -/
def staticsAddsUptoRow : OpenClaim := { program := "ytjmmenfbcbagoaa", sum := "09ca1e54510c5a81b5bf670fd1a34379dc00ea1cda71fb5ae154314d7fcae198", func := "loftblock/loftblocklaw11.StaticsAdds", spec := "staticsAdds", inPlace := ["math/bits.Sub64", "math/bits.Add64"], unfollowed := true, recurses := true, named := ["math/bits.divideError", "math/bits.overflowError"], apart := false, narrowed := true }
def StaticsAddsUptoSaid : Prop := staticsAddsUptoRow.holds Try.pinned (OpenSpec.upto staticsAddsSpec)

/-- 'loftblocklaw16.MobilityProves', WHERE WHAT IT READS IS OF BULK AT MOST 1048576: true; the input reads as it did. -/
def mobilityProvesUptoRow : OpenClaim := { program := "ytjmmenfbcbagoaa", sum := "09ca1e54510c5a81b5bf670fd1a34379dc00ea1cda71fb5ae154314d7fcae198", func := "loftblock/loftblocklaw16.MobilityProves", spec := "mobilityProves", inPlace := ["math/bits.Sub64", "math/bits.Add64"], unfollowed := true, recurses := true, named := ["math/bits.divideError", "math/bits.overflowError"], apart := false, narrowed := true }
def MobilityProvesUptoSaid : Prop := mobilityProvesUptoRow.holds Try.pinned (OpenSpec.upto mobilityProvesSpec)

/-- 'loftblocklaw16.MobilityWithout', WHERE WHAT IT READS IS OF BULK AT MOST 1048576: true; the input reads as it did. -/
def mobilityWithoutUptoRow : OpenClaim := { program := "ytjmmenfbcbagoaa", sum := "09ca1e54510c5a81b5bf670fd1a34379dc00ea1cda71fb5ae154314d7fcae198", func := "loftblock/loftblocklaw16.MobilityWithout", spec := "mobilityWithout", inPlace := ["math/bits.Sub64", "math/bits.Add64"], unfollowed := true, recurses := true, named := ["math/bits.divideError", "math/bits.overflowError"], apart := false, narrowed := true }
def MobilityWithoutUptoSaid : Prop := mobilityWithoutUptoRow.holds Try.pinned (OpenSpec.upto mobilityWithoutSpec)

/-- 'loftblocklaw16.MobilityOrder', WHERE WHAT IT READS IS OF BULK AT MOST 1048576: true; the input reads as it did. -/
def mobilityOrderUptoRow : OpenClaim := { program := "ytjmmenfbcbagoaa", sum := "09ca1e54510c5a81b5bf670fd1a34379dc00ea1cda71fb5ae154314d7fcae198", func := "loftblock/loftblocklaw16.MobilityOrder", spec := "mobilityOrder", inPlace := ["math/bits.Sub64", "math/bits.Add64"], unfollowed := true, recurses := true, named := ["math/bits.divideError", "math/bits.overflowError"], apart := false, narrowed := true }
def MobilityOrderUptoSaid : Prop := mobilityOrderUptoRow.holds Try.pinned (OpenSpec.upto mobilityOrderSpec)

/-- 'loftblocklaw16.MobilityRemoves', WHERE WHAT IT READS IS OF BULK AT MOST 1048576: true; the input reads as it did. -/
def mobilityRemovesUptoRow : OpenClaim := { program := "ytjmmenfbcbagoaa", sum := "09ca1e54510c5a81b5bf670fd1a34379dc00ea1cda71fb5ae154314d7fcae198", func := "loftblock/loftblocklaw16.MobilityRemoves", spec := "mobilityRemoves", inPlace := ["math/bits.Sub64", "math/bits.Add64"], unfollowed := true, recurses := true, named := ["math/bits.divideError", "math/bits.overflowError"], apart := false, narrowed := true }
def MobilityRemovesUptoSaid : Prop := mobilityRemovesUptoRow.holds Try.pinned (OpenSpec.upto mobilityRemovesSpec)

end Rows
end Go.Proofs.Ytjmmenfbcbagoaa
