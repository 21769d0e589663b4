/-
  DERIVED. GIVEN WITH THE SEED: THE CARDS: each row of YtpbpafmgkdihlaaGreatDoorRows.lean that lists a variable, with what it lists TIED to the program's text (the seventh form; the later family's looks); each row that meets fmt, with fmt's text TOLD by the authors' own Lean function (tested against real Go, not proved from fmt's source: count such statements apart). THE CARD IS WHAT COUNTS. Prove the row's statement (the work); the ties are given (YtpbpafmgkdihlaaGreatDoorTie.lean); close each card by the builder's one call (the guide's Derived/Test/ToyasCard.lean, 'card_holds'). Laid BY PROGRAM, IN A SANDBOX (cutbox-door.mjs). By AI agents, Wed Nov 11 2026. No macro, syntax, notation, axiom, sorry.
-/
import Derived.Test.YtpbpafmgkdihlaaGreatDoorRows
import GoSem.ClaimSeven
namespace Go.Proofs.YtpbpafmgkdihlaaGreatDoor
namespace Rows

/-- THE TIED CARD OF 'loftblocktop.TopHolding'. -/
def topHoldingCard : Claim7 := { stood := { row := topHoldingRow, standIns := [], harness := (true, "8b69e65bb4c9f267c5a81c09863b1f094e290ff8de4062d099df6c7e2a6b9b43"), looks := true }, kinds := [], alts := [], laidByText := true, laidKinds := [.data, .data, .data], laidTests := true, laidLooks := .later }
def TopHoldingCardSaid : Prop := Claim7.holds Tryz.pinned (.plain (OpenSpec.ofChange topHoldingSpec)) topHoldingCard

/-- THE SECOND FORM's CARD OF 'loftblocktop.TopHolding'. -/
def topHoldingUptoCard : Claim7 := { stood := { row := topHoldingUptoRow, standIns := [], harness := (true, "8b69e65bb4c9f267c5a81c09863b1f094e290ff8de4062d099df6c7e2a6b9b43"), looks := true }, kinds := [], alts := [], laidByText := true, laidKinds := [.data, .data, .data], laidTests := true, laidLooks := .later }
def TopHoldingUptoCardSaid : Prop := Claim7.holds Tryz.pinned (.plain (OpenSpec.upto topHoldingSpec)) topHoldingUptoCard
end Rows
end Go.Proofs.YtpbpafmgkdihlaaGreatDoor
