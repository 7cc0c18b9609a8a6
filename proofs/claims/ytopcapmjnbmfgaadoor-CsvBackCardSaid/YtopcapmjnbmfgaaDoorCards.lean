/-
  DERIVED. GIVEN WITH THE SEED: THE CARDS: each row of YtopcapmjnbmfgaaDoorRows.lean that lists a variable, with what it lists TIED to the program's text (the seventh form; the later family's looks); each row that meets fmt, with fmt's text TOLD by the authors' own Lean function (tested against real Go, not proved from fmt's source: count such statements apart). THE CARD IS WHAT COUNTS. Prove the row's statement (the work); the ties are given (YtopcapmjnbmfgaaDoorTie.lean); close each card by the builder's one call (the guide's Derived/Test/ToyasCard.lean, 'card_holds'). Laid BY PROGRAM, IN A SANDBOX (cutbox-door.mjs). By AI agents, Wed Nov 11 2026. No macro, syntax, notation, axiom, sorry.
-/
import Derived.Test.YtopcapmjnbmfgaaDoorRows
import GoSem.ClaimSeven
namespace Go.Proofs.YtopcapmjnbmfgaaDoor
namespace Rows

/-- THE TIED CARD OF 'consignorlaw04.CsvPrint'. -/
def csvPrintCard : Claim7 := { stood := { row := csvPrintRow, standIns := [], harness := (true, "7ab3828a53c2febe50e0c0ecc7254cb900dada4fe308eff74e87c313fd2c7c04"), looks := false }, kinds := [], alts := [], laidByText := true, laidKinds := [.data, .pinned], laidTests := true, laidLooks := .later }
def CsvPrintCardSaid : Prop := Claim7.holds Tryd.pinned (.plain (OpenSpec.ofChange csvPrintSpec)) csvPrintCard

/-- THE TIED CARD OF 'consignorlaw04.CsvBack'. -/
def csvBackCard : Claim7 := { stood := { row := csvBackRow, standIns := [], harness := (true, "7ab3828a53c2febe50e0c0ecc7254cb900dada4fe308eff74e87c313fd2c7c04"), looks := false }, kinds := [], alts := [], laidByText := true, laidKinds := [.data, .pinned], laidTests := true, laidLooks := .later }
def CsvBackCardSaid : Prop := Claim7.holds Tryd.pinned (.plain (OpenSpec.ofChange csvBackSpec)) csvBackCard

/-- THE TIED CARD OF 'consignorlaw04.CsvAgain'. -/
def csvAgainCard : Claim7 := { stood := { row := csvAgainRow, standIns := [], harness := (true, "7ab3828a53c2febe50e0c0ecc7254cb900dada4fe308eff74e87c313fd2c7c04"), looks := false }, kinds := [], alts := [], laidByText := true, laidKinds := [.data, .pinned], laidTests := true, laidLooks := .later }
def CsvAgainCardSaid : Prop := Claim7.holds Tryd.pinned (.plain (OpenSpec.ofChange csvAgainSpec)) csvAgainCard

/-- THE SECOND FORM's CARD OF 'consignorlaw04.CsvPrint'. -/
def csvPrintUptoCard : Claim7 := { stood := { row := csvPrintUptoRow, standIns := [], harness := (true, "7ab3828a53c2febe50e0c0ecc7254cb900dada4fe308eff74e87c313fd2c7c04"), looks := false }, kinds := [], alts := [], laidByText := true, laidKinds := [.data, .pinned], laidTests := true, laidLooks := .later }
def CsvPrintUptoCardSaid : Prop := Claim7.holds Tryd.pinned (.plain (OpenSpec.upto csvPrintSpec)) csvPrintUptoCard

/-- THE SECOND FORM's CARD OF 'consignorlaw04.CsvBack'. -/
def csvBackUptoCard : Claim7 := { stood := { row := csvBackUptoRow, standIns := [], harness := (true, "7ab3828a53c2febe50e0c0ecc7254cb900dada4fe308eff74e87c313fd2c7c04"), looks := false }, kinds := [], alts := [], laidByText := true, laidKinds := [.data, .pinned], laidTests := true, laidLooks := .later }
def CsvBackUptoCardSaid : Prop := Claim7.holds Tryd.pinned (.plain (OpenSpec.upto csvBackSpec)) csvBackUptoCard

/-- THE SECOND FORM's CARD OF 'consignorlaw04.CsvAgain'. -/
def csvAgainUptoCard : Claim7 := { stood := { row := csvAgainUptoRow, standIns := [], harness := (true, "7ab3828a53c2febe50e0c0ecc7254cb900dada4fe308eff74e87c313fd2c7c04"), looks := false }, kinds := [], alts := [], laidByText := true, laidKinds := [.data, .pinned], laidTests := true, laidLooks := .later }
def CsvAgainUptoCardSaid : Prop := Claim7.holds Tryd.pinned (.plain (OpenSpec.upto csvAgainSpec)) csvAgainUptoCard
end Rows
end Go.Proofs.YtopcapmjnbmfgaaDoor
