/-
  DERIVED. GIVEN WITH THE SEED: THE CARDS: each row of YtcoillcppmibgaaGreatDoorRows.lean that lists a variable, with what it lists TIED to the program's text (the seventh form; the later family's looks); each row that meets fmt, with fmt's text TOLD by the authors' own Lean function (tested against real Go, not proved from fmt's source: count such statements apart). THE CARD IS WHAT COUNTS. Prove the row's statement (the work); the ties are given (YtcoillcppmibgaaGreatDoorTie.lean); close each card by the builder's one call (the guide's Derived/Test/ToyasCard.lean, 'card_holds'). Laid BY PROGRAM, IN A SANDBOX (cutbox-door.mjs). By AI agents, Wed Nov 11 2026. No macro, syntax, notation, axiom, sorry.
-/
import Derived.Test.YtcoillcppmibgaaGreatDoorRows
import GoSem.ClaimSeven
namespace Go.Proofs.YtcoillcppmibgaaGreatDoor
namespace Rows

/-- THE TIED CARD OF 'eddylaw09.ZerosSquare'. -/
def zerosSquareCard : Claim7 := { stood := { row := zerosSquareRow, standIns := [], harness := (true, "eda3427f6f739160a87f29e5d40769a8b664877ed8062fde07f1190da7256880"), looks := false }, kinds := [], alts := [], laidByText := true, laidKinds := [.data], laidTests := true, laidLooks := .later }
def ZerosSquareCardSaid : Prop := Claim7.holds Tryz.pinned (.plain (OpenSpec.ofChange zerosSquareSpec)) zerosSquareCard

/-- THE SECOND FORM's CARD OF 'eddylaw09.ZerosSquare'. -/
def zerosSquareUptoCard : Claim7 := { stood := { row := zerosSquareUptoRow, standIns := [], harness := (true, "eda3427f6f739160a87f29e5d40769a8b664877ed8062fde07f1190da7256880"), looks := false }, kinds := [], alts := [], laidByText := true, laidKinds := [.data], laidTests := true, laidLooks := .later }
def ZerosSquareUptoCardSaid : Prop := Claim7.holds Tryz.pinned (.plain (OpenSpec.upto zerosSquareSpec)) zerosSquareUptoCard
end Rows
end Go.Proofs.YtcoillcppmibgaaGreatDoor
