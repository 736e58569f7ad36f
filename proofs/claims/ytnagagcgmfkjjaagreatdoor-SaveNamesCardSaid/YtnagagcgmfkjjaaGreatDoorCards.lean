/-
  DERIVED. GIVEN WITH THE SEED: THE CARDS: each row of YtnagagcgmfkjjaaGreatDoorRows.lean that lists a variable, with what it lists TIED to the program's text (the seventh form; the later family's looks); each row that meets fmt, with fmt's text TOLD by the authors' own Lean function (tested against real Go, not proved from fmt's source: count such statements apart). THE CARD IS WHAT COUNTS. Prove the row's statement (the work); the ties are given (YtnagagcgmfkjjaaGreatDoorTie.lean); close each card by the builder's one call (the guide's Derived/Test/ToyasCard.lean, 'card_holds'). Laid BY PROGRAM, IN A SANDBOX (cutbox-door.mjs). By AI agents, Wed Nov 11 2026. No macro, syntax, notation, axiom, sorry.
-/
import Derived.Test.YtnagagcgmfkjjaaGreatDoorRows
import GoSem.ClaimSeven
namespace Go.Proofs.YtnagagcgmfkjjaaGreatDoor
namespace Rows

/-- THE TIED CARD OF 'eddylaw29.SaveReads'. -/
def saveReadsCard : Claim7 := { stood := { row := saveReadsRow, standIns := [], harness := (true, "af31d3d1eae3de7ff502525c92baffebd15ef4f25763b17f8d5a6a4354e9df9e"), looks := true }, kinds := [], alts := [], laidByText := true, laidKinds := [.data, .data, .data, .handle, .sentinel, .sentinel], laidTests := true, laidLooks := .later }
def SaveReadsCardSaid : Prop := Claim7.holds Tryz.pinned (.plain (OpenSpec.ofChange saveReadsSpec)) saveReadsCard

/-- THE TIED CARD OF 'eddylaw29.SaveNames'. -/
def saveNamesCard : Claim7 := { stood := { row := saveNamesRow, standIns := [], harness := (true, "af31d3d1eae3de7ff502525c92baffebd15ef4f25763b17f8d5a6a4354e9df9e"), looks := true }, kinds := [], alts := [], laidByText := true, laidKinds := [.data, .data, .data, .handle, .sentinel, .sentinel], laidTests := true, laidLooks := .later }
def SaveNamesCardSaid : Prop := Claim7.holds Tryz.pinned (.plain (OpenSpec.ofChange saveNamesSpec)) saveNamesCard

/-- THE TIED CARD OF 'eddylaw29.SaveOnly'. -/
def saveOnlyCard : Claim7 := { stood := { row := saveOnlyRow, standIns := [], harness := (true, "af31d3d1eae3de7ff502525c92baffebd15ef4f25763b17f8d5a6a4354e9df9e"), looks := true }, kinds := [], alts := [], laidByText := true, laidKinds := [.data, .data, .data, .handle, .sentinel, .sentinel], laidTests := true, laidLooks := .later }
def SaveOnlyCardSaid : Prop := Claim7.holds Tryz.pinned (.plain (OpenSpec.ofChange saveOnlySpec)) saveOnlyCard

/-- THE SECOND FORM's CARD OF 'eddylaw29.SaveReads'. -/
def saveReadsUptoCard : Claim7 := { stood := { row := saveReadsUptoRow, standIns := [], harness := (true, "af31d3d1eae3de7ff502525c92baffebd15ef4f25763b17f8d5a6a4354e9df9e"), looks := true }, kinds := [], alts := [], laidByText := true, laidKinds := [.data, .data, .data, .handle, .sentinel, .sentinel], laidTests := true, laidLooks := .later }
def SaveReadsUptoCardSaid : Prop := Claim7.holds Tryz.pinned (.plain (OpenSpec.upto saveReadsSpec)) saveReadsUptoCard

/-- THE SECOND FORM's CARD OF 'eddylaw29.SaveNames'. -/
def saveNamesUptoCard : Claim7 := { stood := { row := saveNamesUptoRow, standIns := [], harness := (true, "af31d3d1eae3de7ff502525c92baffebd15ef4f25763b17f8d5a6a4354e9df9e"), looks := true }, kinds := [], alts := [], laidByText := true, laidKinds := [.data, .data, .data, .handle, .sentinel, .sentinel], laidTests := true, laidLooks := .later }
def SaveNamesUptoCardSaid : Prop := Claim7.holds Tryz.pinned (.plain (OpenSpec.upto saveNamesSpec)) saveNamesUptoCard

/-- THE SECOND FORM's CARD OF 'eddylaw29.SaveOnly'. -/
def saveOnlyUptoCard : Claim7 := { stood := { row := saveOnlyUptoRow, standIns := [], harness := (true, "af31d3d1eae3de7ff502525c92baffebd15ef4f25763b17f8d5a6a4354e9df9e"), looks := true }, kinds := [], alts := [], laidByText := true, laidKinds := [.data, .data, .data, .handle, .sentinel, .sentinel], laidTests := true, laidLooks := .later }
def SaveOnlyUptoCardSaid : Prop := Claim7.holds Tryz.pinned (.plain (OpenSpec.upto saveOnlySpec)) saveOnlyUptoCard
end Rows
end Go.Proofs.YtnagagcgmfkjjaaGreatDoor
