/-
  DERIVED. GIVEN WITH THE SEED: THE CARDS: each row of YtmjpfoninpbgiaaGreatDoorRows.lean that lists a variable, with what it lists TIED to the program's text (the seventh form; the later family's looks); each row that meets fmt, with fmt's text TOLD by the authors' own Lean function (tested against real Go, not proved from fmt's source: count such statements apart). THE CARD IS WHAT COUNTS. Prove the row's statement (the work); the ties are given (YtmjpfoninpbgiaaGreatDoorTie.lean); close each card by the builder's one call (the guide's Derived/Test/ToyasCard.lean, 'card_holds'). Laid BY PROGRAM, IN A SANDBOX (cutbox-door.mjs). By AI agents, Wed Nov 11 2026. No macro, syntax, notation, axiom, sorry.
-/
import Derived.Test.YtmjpfoninpbgiaaGreatDoorRows
import GoSem.ClaimSeven
namespace Go.Proofs.YtmjpfoninpbgiaaGreatDoor
namespace Rows

/-- THE TIED CARD OF 'eddylaw31.HouseCrowd'. -/
def houseCrowdCard : Claim7 := { stood := { row := houseCrowdRow, standIns := [], harness := (true, "567cd9a5c66934aa37be68bd4db66407864e1ff49161a0b7fa14f1cec2a76243"), looks := true }, kinds := [], alts := [], laidByText := true, laidKinds := [.data, .data, .data, .data, .handle, .sentinel, .sentinel, .pinned], laidTests := true, laidLooks := .later }
def HouseCrowdCardSaid : Prop := Claim7.holds Tryz.pinned (.plain (OpenSpec.ofChange houseCrowdSpec)) houseCrowdCard

/-- THE TIED CARD OF 'eddylaw31.HouseNames'. -/
def houseNamesCard : Claim7 := { stood := { row := houseNamesRow, standIns := [], harness := (true, "567cd9a5c66934aa37be68bd4db66407864e1ff49161a0b7fa14f1cec2a76243"), looks := true }, kinds := [], alts := [], laidByText := true, laidKinds := [.data, .data, .data, .data, .handle, .sentinel, .sentinel, .pinned], laidTests := true, laidLooks := .later }
def HouseNamesCardSaid : Prop := Claim7.holds Tryz.pinned (.plain (OpenSpec.ofChange houseNamesSpec)) houseNamesCard

/-- THE SECOND FORM's CARD OF 'eddylaw31.HouseCrowd'. -/
def houseCrowdUptoCard : Claim7 := { stood := { row := houseCrowdUptoRow, standIns := [], harness := (true, "567cd9a5c66934aa37be68bd4db66407864e1ff49161a0b7fa14f1cec2a76243"), looks := true }, kinds := [], alts := [], laidByText := true, laidKinds := [.data, .data, .data, .data, .handle, .sentinel, .sentinel, .pinned], laidTests := true, laidLooks := .later }
def HouseCrowdUptoCardSaid : Prop := Claim7.holds Tryz.pinned (.plain (OpenSpec.upto houseCrowdSpec)) houseCrowdUptoCard

/-- THE SECOND FORM's CARD OF 'eddylaw31.HouseNames'. -/
def houseNamesUptoCard : Claim7 := { stood := { row := houseNamesUptoRow, standIns := [], harness := (true, "567cd9a5c66934aa37be68bd4db66407864e1ff49161a0b7fa14f1cec2a76243"), looks := true }, kinds := [], alts := [], laidByText := true, laidKinds := [.data, .data, .data, .data, .handle, .sentinel, .sentinel, .pinned], laidTests := true, laidLooks := .later }
def HouseNamesUptoCardSaid : Prop := Claim7.holds Tryz.pinned (.plain (OpenSpec.upto houseNamesSpec)) houseNamesUptoCard
end Rows
end Go.Proofs.YtmjpfoninpbgiaaGreatDoor
