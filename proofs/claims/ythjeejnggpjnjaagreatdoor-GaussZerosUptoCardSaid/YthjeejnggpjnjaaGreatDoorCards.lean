/-
  DERIVED. GIVEN WITH THE SEED: THE CARDS: each row of YthjeejnggpjnjaaGreatDoorRows.lean that lists a variable, with what it lists TIED to the program's text (the seventh form; the later family's looks); each row that meets fmt, with fmt's text TOLD by the authors' own Lean function (tested against real Go, not proved from fmt's source: count such statements apart). THE CARD IS WHAT COUNTS. Prove the row's statement (the work); the ties are given (YthjeejnggpjnjaaGreatDoorTie.lean); close each card by the builder's one call (the guide's Derived/Test/ToyasCard.lean, 'card_holds'). Laid BY PROGRAM, IN A SANDBOX (cutbox-door.mjs). By AI agents, Wed Nov 11 2026. No macro, syntax, notation, axiom, sorry.
-/
import Derived.Test.YthjeejnggpjnjaaGreatDoorRows
import GoSem.ClaimSeven
namespace Go.Proofs.YthjeejnggpjnjaaGreatDoor
namespace Rows

/-- THE TIED CARD OF 'eddylaw03.GaussAt'. -/
def gaussAtCard : Claim7 := { stood := { row := gaussAtRow, standIns := [], harness := (true, "ef451c615b5b81a19ccbf57d22d5dc934475ce41844b02a4a74bf58eb3e3eb50"), looks := false }, kinds := [], alts := [], laidByText := true, laidKinds := [.data], laidTests := true, laidLooks := .later }
def GaussAtCardSaid : Prop := Claim7.holds Tryz.pinned (.plain (OpenSpec.ofChange gaussAtSpec)) gaussAtCard

/-- THE TIED CARD OF 'eddylaw03.GaussZeros'. -/
def gaussZerosCard : Claim7 := { stood := { row := gaussZerosRow, standIns := [], harness := (true, "ef451c615b5b81a19ccbf57d22d5dc934475ce41844b02a4a74bf58eb3e3eb50"), looks := false }, kinds := [], alts := [], laidByText := true, laidKinds := [.data], laidTests := true, laidLooks := .later }
def GaussZerosCardSaid : Prop := Claim7.holds Tryz.pinned (.plain (OpenSpec.ofChange gaussZerosSpec)) gaussZerosCard

/-- THE TIED CARD OF 'eddylaw03.GaussProduct'. -/
def gaussProductCard : Claim7 := { stood := { row := gaussProductRow, standIns := [], harness := (true, "ef451c615b5b81a19ccbf57d22d5dc934475ce41844b02a4a74bf58eb3e3eb50"), looks := false }, kinds := [], alts := [], laidByText := true, laidKinds := [.data], laidTests := true, laidLooks := .later }
def GaussProductCardSaid : Prop := Claim7.holds Tryz.pinned (.plain (OpenSpec.ofChange gaussProductSpec)) gaussProductCard

/-- THE TIED CARD OF 'eddylaw03.GaussCounted'. -/
def gaussCountedCard : Claim7 := { stood := { row := gaussCountedRow, standIns := [], harness := (true, "ef451c615b5b81a19ccbf57d22d5dc934475ce41844b02a4a74bf58eb3e3eb50"), looks := false }, kinds := [], alts := [], laidByText := true, laidKinds := [.data], laidTests := true, laidLooks := .later }
def GaussCountedCardSaid : Prop := Claim7.holds Tryz.pinned (.plain (OpenSpec.ofChange gaussCountedSpec)) gaussCountedCard

/-- THE TIED CARD OF 'eddylaw03.GaussCut'. -/
def gaussCutCard : Claim7 := { stood := { row := gaussCutRow, standIns := [], harness := (true, "ef451c615b5b81a19ccbf57d22d5dc934475ce41844b02a4a74bf58eb3e3eb50"), looks := false }, kinds := [], alts := [], laidByText := true, laidKinds := [.data], laidTests := true, laidLooks := .later }
def GaussCutCardSaid : Prop := Claim7.holds Tryz.pinned (.plain (OpenSpec.ofChange gaussCutSpec)) gaussCutCard

/-- THE TIED CARD OF 'eddylaw03.GaussFloats'. -/
def gaussFloatsCard : Claim7 := { stood := { row := gaussFloatsRow, standIns := [], harness := (true, "ef451c615b5b81a19ccbf57d22d5dc934475ce41844b02a4a74bf58eb3e3eb50"), looks := false }, kinds := [], alts := [], laidByText := true, laidKinds := [.data], laidTests := true, laidLooks := .later }
def GaussFloatsCardSaid : Prop := Claim7.holds Tryz.pinned (.plain (OpenSpec.ofChange gaussFloatsSpec)) gaussFloatsCard

/-- THE TIED CARD OF 'eddylaw03.GaussField'. -/
def gaussFieldCard : Claim7 := { stood := { row := gaussFieldRow, standIns := [], harness := (true, "ef451c615b5b81a19ccbf57d22d5dc934475ce41844b02a4a74bf58eb3e3eb50"), looks := false }, kinds := [], alts := [], laidByText := true, laidKinds := [.data], laidTests := true, laidLooks := .later }
def GaussFieldCardSaid : Prop := Claim7.holds Tryz.pinned (.plain (OpenSpec.ofChange gaussFieldSpec)) gaussFieldCard

/-- THE TIED CARD OF 'eddylaw03.GaussNear'. -/
def gaussNearCard : Claim7 := { stood := { row := gaussNearRow, standIns := [], harness := (true, "ef451c615b5b81a19ccbf57d22d5dc934475ce41844b02a4a74bf58eb3e3eb50"), looks := false }, kinds := [], alts := [], laidByText := true, laidKinds := [.data], laidTests := true, laidLooks := .later }
def GaussNearCardSaid : Prop := Claim7.holds Tryz.pinned (.plain (OpenSpec.ofChange gaussNearSpec)) gaussNearCard

/-- THE TIED CARD OF 'eddylaw03.GaussOps'. -/
def gaussOpsCard : Claim7 := { stood := { row := gaussOpsRow, standIns := [], harness := (true, "ef451c615b5b81a19ccbf57d22d5dc934475ce41844b02a4a74bf58eb3e3eb50"), looks := false }, kinds := [], alts := [], laidByText := true, laidKinds := [.data], laidTests := true, laidLooks := .later }
def GaussOpsCardSaid : Prop := Claim7.holds Tryz.pinned (.plain (OpenSpec.ofChange gaussOpsSpec)) gaussOpsCard

/-- THE SECOND FORM's CARD OF 'eddylaw03.GaussAt'. -/
def gaussAtUptoCard : Claim7 := { stood := { row := gaussAtUptoRow, standIns := [], harness := (true, "ef451c615b5b81a19ccbf57d22d5dc934475ce41844b02a4a74bf58eb3e3eb50"), looks := false }, kinds := [], alts := [], laidByText := true, laidKinds := [.data], laidTests := true, laidLooks := .later }
def GaussAtUptoCardSaid : Prop := Claim7.holds Tryz.pinned (.plain (OpenSpec.upto gaussAtSpec)) gaussAtUptoCard

/-- THE SECOND FORM's CARD OF 'eddylaw03.GaussZeros'. -/
def gaussZerosUptoCard : Claim7 := { stood := { row := gaussZerosUptoRow, standIns := [], harness := (true, "ef451c615b5b81a19ccbf57d22d5dc934475ce41844b02a4a74bf58eb3e3eb50"), looks := false }, kinds := [], alts := [], laidByText := true, laidKinds := [.data], laidTests := true, laidLooks := .later }
def GaussZerosUptoCardSaid : Prop := Claim7.holds Tryz.pinned (.plain (OpenSpec.upto gaussZerosSpec)) gaussZerosUptoCard

/-- THE SECOND FORM's CARD OF 'eddylaw03.GaussProduct'. -/
def gaussProductUptoCard : Claim7 := { stood := { row := gaussProductUptoRow, standIns := [], harness := (true, "ef451c615b5b81a19ccbf57d22d5dc934475ce41844b02a4a74bf58eb3e3eb50"), looks := false }, kinds := [], alts := [], laidByText := true, laidKinds := [.data], laidTests := true, laidLooks := .later }
def GaussProductUptoCardSaid : Prop := Claim7.holds Tryz.pinned (.plain (OpenSpec.upto gaussProductSpec)) gaussProductUptoCard

/-- THE SECOND FORM's CARD OF 'eddylaw03.GaussCounted'. -/
def gaussCountedUptoCard : Claim7 := { stood := { row := gaussCountedUptoRow, standIns := [], harness := (true, "ef451c615b5b81a19ccbf57d22d5dc934475ce41844b02a4a74bf58eb3e3eb50"), looks := false }, kinds := [], alts := [], laidByText := true, laidKinds := [.data], laidTests := true, laidLooks := .later }
def GaussCountedUptoCardSaid : Prop := Claim7.holds Tryz.pinned (.plain (OpenSpec.upto gaussCountedSpec)) gaussCountedUptoCard

/-- THE SECOND FORM's CARD OF 'eddylaw03.GaussCut'. -/
def gaussCutUptoCard : Claim7 := { stood := { row := gaussCutUptoRow, standIns := [], harness := (true, "ef451c615b5b81a19ccbf57d22d5dc934475ce41844b02a4a74bf58eb3e3eb50"), looks := false }, kinds := [], alts := [], laidByText := true, laidKinds := [.data], laidTests := true, laidLooks := .later }
def GaussCutUptoCardSaid : Prop := Claim7.holds Tryz.pinned (.plain (OpenSpec.upto gaussCutSpec)) gaussCutUptoCard

/-- THE SECOND FORM's CARD OF 'eddylaw03.GaussFloats'. -/
def gaussFloatsUptoCard : Claim7 := { stood := { row := gaussFloatsUptoRow, standIns := [], harness := (true, "ef451c615b5b81a19ccbf57d22d5dc934475ce41844b02a4a74bf58eb3e3eb50"), looks := false }, kinds := [], alts := [], laidByText := true, laidKinds := [.data], laidTests := true, laidLooks := .later }
def GaussFloatsUptoCardSaid : Prop := Claim7.holds Tryz.pinned (.plain (OpenSpec.upto gaussFloatsSpec)) gaussFloatsUptoCard

/-- THE SECOND FORM's CARD OF 'eddylaw03.GaussField'. -/
def gaussFieldUptoCard : Claim7 := { stood := { row := gaussFieldUptoRow, standIns := [], harness := (true, "ef451c615b5b81a19ccbf57d22d5dc934475ce41844b02a4a74bf58eb3e3eb50"), looks := false }, kinds := [], alts := [], laidByText := true, laidKinds := [.data], laidTests := true, laidLooks := .later }
def GaussFieldUptoCardSaid : Prop := Claim7.holds Tryz.pinned (.plain (OpenSpec.upto gaussFieldSpec)) gaussFieldUptoCard

/-- THE SECOND FORM's CARD OF 'eddylaw03.GaussNear'. -/
def gaussNearUptoCard : Claim7 := { stood := { row := gaussNearUptoRow, standIns := [], harness := (true, "ef451c615b5b81a19ccbf57d22d5dc934475ce41844b02a4a74bf58eb3e3eb50"), looks := false }, kinds := [], alts := [], laidByText := true, laidKinds := [.data], laidTests := true, laidLooks := .later }
def GaussNearUptoCardSaid : Prop := Claim7.holds Tryz.pinned (.plain (OpenSpec.upto gaussNearSpec)) gaussNearUptoCard

/-- THE SECOND FORM's CARD OF 'eddylaw03.GaussOps'. -/
def gaussOpsUptoCard : Claim7 := { stood := { row := gaussOpsUptoRow, standIns := [], harness := (true, "ef451c615b5b81a19ccbf57d22d5dc934475ce41844b02a4a74bf58eb3e3eb50"), looks := false }, kinds := [], alts := [], laidByText := true, laidKinds := [.data], laidTests := true, laidLooks := .later }
def GaussOpsUptoCardSaid : Prop := Claim7.holds Tryz.pinned (.plain (OpenSpec.upto gaussOpsSpec)) gaussOpsUptoCard
end Rows
end Go.Proofs.YthjeejnggpjnjaaGreatDoor
