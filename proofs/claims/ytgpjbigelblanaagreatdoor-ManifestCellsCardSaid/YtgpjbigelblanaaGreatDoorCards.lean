/-
  DERIVED. GIVEN WITH THE SEED: THE CARDS: each row of YtgpjbigelblanaaGreatDoorRows.lean that lists a variable, with what it lists TIED to the program's text (the seventh form; the later family's looks); each row that meets fmt, with fmt's text TOLD by the authors' own Lean function (tested against real Go, not proved from fmt's source: count such statements apart). THE CARD IS WHAT COUNTS. Prove the row's statement (the work); the ties are given (YtgpjbigelblanaaGreatDoorTie.lean); close each card by the builder's one call (the guide's Derived/Test/ToyasCard.lean, 'card_holds'). Laid BY PROGRAM, IN A SANDBOX (cutbox-door.mjs). By AI agents, Wed Nov 11 2026. No macro, syntax, notation, axiom, sorry.
-/
import Derived.Test.YtgpjbigelblanaaGreatDoorRows
import GoSem.ClaimSeven
namespace Go.Proofs.YtgpjbigelblanaaGreatDoor
namespace Rows

/-- THE TIED CARD OF 'consignorlaw14.StockPrint'. -/
def stockPrintCard : Claim7 := { stood := { row := stockPrintRow, standIns := [], harness := (true, "c0dbab8717248c0bea4c67d42cb273ee829510d5dbf58c8bf853717598392222"), looks := true }, kinds := [], alts := [], laidByText := true, laidKinds := [.data, .data, .data, .data, .sentinel, .sentinel, .data, .mapped, .mapped, .pinned], laidTests := true, laidLooks := .later }
def StockPrintCardSaid : Prop := Claim7.holds Tryz.pinned (.plain (OpenSpec.ofChange stockPrintSpec)) stockPrintCard

/-- THE TIED CARD OF 'consignorlaw14.StockParse'. -/
def stockParseCard : Claim7 := { stood := { row := stockParseRow, standIns := [], harness := (true, "c0dbab8717248c0bea4c67d42cb273ee829510d5dbf58c8bf853717598392222"), looks := true }, kinds := [], alts := [], laidByText := true, laidKinds := [.data, .data, .data, .data, .sentinel, .sentinel, .data, .mapped, .mapped, .pinned], laidTests := true, laidLooks := .later }
def StockParseCardSaid : Prop := Claim7.holds Tryz.pinned (.plain (OpenSpec.ofChange stockParseSpec)) stockParseCard

/-- THE TIED CARD OF 'consignorlaw14.StockCells'. -/
def stockCellsCard : Claim7 := { stood := { row := stockCellsRow, standIns := [], harness := (true, "c0dbab8717248c0bea4c67d42cb273ee829510d5dbf58c8bf853717598392222"), looks := true }, kinds := [], alts := [], laidByText := true, laidKinds := [.data, .data, .data, .data, .sentinel, .sentinel, .data, .mapped, .mapped, .pinned], laidTests := true, laidLooks := .later }
def StockCellsCardSaid : Prop := Claim7.holds Tryz.pinned (.plain (OpenSpec.ofChange stockCellsSpec)) stockCellsCard

/-- THE TIED CARD OF 'consignorlaw15.ManifestPrint'. -/
def manifestPrintCard : Claim7 := { stood := { row := manifestPrintRow, standIns := [], harness := (true, "c0dbab8717248c0bea4c67d42cb273ee829510d5dbf58c8bf853717598392222"), looks := true }, kinds := [], alts := [], laidByText := true, laidKinds := [.data, .data, .data, .data, .sentinel, .sentinel, .data, .pinned], laidTests := true, laidLooks := .later }
def ManifestPrintCardSaid : Prop := Claim7.holds Tryz.pinned (.plain (OpenSpec.ofChange manifestPrintSpec)) manifestPrintCard

/-- THE TIED CARD OF 'consignorlaw15.ManifestParse'. -/
def manifestParseCard : Claim7 := { stood := { row := manifestParseRow, standIns := [], harness := (true, "c0dbab8717248c0bea4c67d42cb273ee829510d5dbf58c8bf853717598392222"), looks := true }, kinds := [], alts := [], laidByText := true, laidKinds := [.data, .data, .data, .data, .sentinel, .sentinel, .data, .pinned], laidTests := true, laidLooks := .later }
def ManifestParseCardSaid : Prop := Claim7.holds Tryz.pinned (.plain (OpenSpec.ofChange manifestParseSpec)) manifestParseCard

/-- THE TIED CARD OF 'consignorlaw15.ManifestCells'. -/
def manifestCellsCard : Claim7 := { stood := { row := manifestCellsRow, standIns := [], harness := (true, "c0dbab8717248c0bea4c67d42cb273ee829510d5dbf58c8bf853717598392222"), looks := true }, kinds := [], alts := [], laidByText := true, laidKinds := [.data, .data, .data, .data, .sentinel, .sentinel, .data, .pinned], laidTests := true, laidLooks := .later }
def ManifestCellsCardSaid : Prop := Claim7.holds Tryz.pinned (.plain (OpenSpec.ofChange manifestCellsSpec)) manifestCellsCard

/-- THE TIED CARD OF 'consignorlaw15.ManifestBack'. -/
def manifestBackCard : Claim7 := { stood := { row := manifestBackRow, standIns := [], harness := (true, "c0dbab8717248c0bea4c67d42cb273ee829510d5dbf58c8bf853717598392222"), looks := true }, kinds := [], alts := [], laidByText := true, laidKinds := [.data, .data, .data, .data, .sentinel, .sentinel, .data, .pinned], laidTests := true, laidLooks := .later }
def ManifestBackCardSaid : Prop := Claim7.holds Tryz.pinned (.plain (OpenSpec.ofChange manifestBackSpec)) manifestBackCard

/-- THE TIED CARD OF 'consignorlaw15.ManifestForm'. -/
def manifestFormCard : Claim7 := { stood := { row := manifestFormRow, standIns := [], harness := (true, "c0dbab8717248c0bea4c67d42cb273ee829510d5dbf58c8bf853717598392222"), looks := true }, kinds := [], alts := [], laidByText := true, laidKinds := [.data, .data, .data, .data, .sentinel, .sentinel, .data, .pinned], laidTests := true, laidLooks := .later }
def ManifestFormCardSaid : Prop := Claim7.holds Tryz.pinned (.plain (OpenSpec.ofChange manifestFormSpec)) manifestFormCard

/-- THE SECOND FORM's CARD OF 'consignorlaw14.StockPrint'. -/
def stockPrintUptoCard : Claim7 := { stood := { row := stockPrintUptoRow, standIns := [], harness := (true, "c0dbab8717248c0bea4c67d42cb273ee829510d5dbf58c8bf853717598392222"), looks := true }, kinds := [], alts := [], laidByText := true, laidKinds := [.data, .data, .data, .data, .sentinel, .sentinel, .data, .mapped, .mapped, .pinned], laidTests := true, laidLooks := .later }
def StockPrintUptoCardSaid : Prop := Claim7.holds Tryz.pinned (.plain (OpenSpec.upto stockPrintSpec)) stockPrintUptoCard

/-- THE SECOND FORM's CARD OF 'consignorlaw14.StockParse'. -/
def stockParseUptoCard : Claim7 := { stood := { row := stockParseUptoRow, standIns := [], harness := (true, "c0dbab8717248c0bea4c67d42cb273ee829510d5dbf58c8bf853717598392222"), looks := true }, kinds := [], alts := [], laidByText := true, laidKinds := [.data, .data, .data, .data, .sentinel, .sentinel, .data, .mapped, .mapped, .pinned], laidTests := true, laidLooks := .later }
def StockParseUptoCardSaid : Prop := Claim7.holds Tryz.pinned (.plain (OpenSpec.upto stockParseSpec)) stockParseUptoCard

/-- THE SECOND FORM's CARD OF 'consignorlaw14.StockCells'. -/
def stockCellsUptoCard : Claim7 := { stood := { row := stockCellsUptoRow, standIns := [], harness := (true, "c0dbab8717248c0bea4c67d42cb273ee829510d5dbf58c8bf853717598392222"), looks := true }, kinds := [], alts := [], laidByText := true, laidKinds := [.data, .data, .data, .data, .sentinel, .sentinel, .data, .mapped, .mapped, .pinned], laidTests := true, laidLooks := .later }
def StockCellsUptoCardSaid : Prop := Claim7.holds Tryz.pinned (.plain (OpenSpec.upto stockCellsSpec)) stockCellsUptoCard

/-- THE SECOND FORM's CARD OF 'consignorlaw15.ManifestPrint'. -/
def manifestPrintUptoCard : Claim7 := { stood := { row := manifestPrintUptoRow, standIns := [], harness := (true, "c0dbab8717248c0bea4c67d42cb273ee829510d5dbf58c8bf853717598392222"), looks := true }, kinds := [], alts := [], laidByText := true, laidKinds := [.data, .data, .data, .data, .sentinel, .sentinel, .data, .pinned], laidTests := true, laidLooks := .later }
def ManifestPrintUptoCardSaid : Prop := Claim7.holds Tryz.pinned (.plain (OpenSpec.upto manifestPrintSpec)) manifestPrintUptoCard

/-- THE SECOND FORM's CARD OF 'consignorlaw15.ManifestParse'. -/
def manifestParseUptoCard : Claim7 := { stood := { row := manifestParseUptoRow, standIns := [], harness := (true, "c0dbab8717248c0bea4c67d42cb273ee829510d5dbf58c8bf853717598392222"), looks := true }, kinds := [], alts := [], laidByText := true, laidKinds := [.data, .data, .data, .data, .sentinel, .sentinel, .data, .pinned], laidTests := true, laidLooks := .later }
def ManifestParseUptoCardSaid : Prop := Claim7.holds Tryz.pinned (.plain (OpenSpec.upto manifestParseSpec)) manifestParseUptoCard

/-- THE SECOND FORM's CARD OF 'consignorlaw15.ManifestCells'. -/
def manifestCellsUptoCard : Claim7 := { stood := { row := manifestCellsUptoRow, standIns := [], harness := (true, "c0dbab8717248c0bea4c67d42cb273ee829510d5dbf58c8bf853717598392222"), looks := true }, kinds := [], alts := [], laidByText := true, laidKinds := [.data, .data, .data, .data, .sentinel, .sentinel, .data, .pinned], laidTests := true, laidLooks := .later }
def ManifestCellsUptoCardSaid : Prop := Claim7.holds Tryz.pinned (.plain (OpenSpec.upto manifestCellsSpec)) manifestCellsUptoCard

/-- THE SECOND FORM's CARD OF 'consignorlaw15.ManifestBack'. -/
def manifestBackUptoCard : Claim7 := { stood := { row := manifestBackUptoRow, standIns := [], harness := (true, "c0dbab8717248c0bea4c67d42cb273ee829510d5dbf58c8bf853717598392222"), looks := true }, kinds := [], alts := [], laidByText := true, laidKinds := [.data, .data, .data, .data, .sentinel, .sentinel, .data, .pinned], laidTests := true, laidLooks := .later }
def ManifestBackUptoCardSaid : Prop := Claim7.holds Tryz.pinned (.plain (OpenSpec.upto manifestBackSpec)) manifestBackUptoCard

/-- THE SECOND FORM's CARD OF 'consignorlaw15.ManifestForm'. -/
def manifestFormUptoCard : Claim7 := { stood := { row := manifestFormUptoRow, standIns := [], harness := (true, "c0dbab8717248c0bea4c67d42cb273ee829510d5dbf58c8bf853717598392222"), looks := true }, kinds := [], alts := [], laidByText := true, laidKinds := [.data, .data, .data, .data, .sentinel, .sentinel, .data, .pinned], laidTests := true, laidLooks := .later }
def ManifestFormUptoCardSaid : Prop := Claim7.holds Tryz.pinned (.plain (OpenSpec.upto manifestFormSpec)) manifestFormUptoCard
end Rows
end Go.Proofs.YtgpjbigelblanaaGreatDoor
