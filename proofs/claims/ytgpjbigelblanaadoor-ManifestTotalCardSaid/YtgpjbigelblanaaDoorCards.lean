/-
  DERIVED. GIVEN WITH THE SEED: THE CARDS: each row of YtgpjbigelblanaaDoorRows.lean that lists a variable, with what it lists TIED to the program's text (the seventh form; the later family's looks); each row that meets fmt, with fmt's text TOLD by the authors' own Lean function (tested against real Go, not proved from fmt's source: count such statements apart). THE CARD IS WHAT COUNTS. Prove the row's statement (the work); the ties are given (YtgpjbigelblanaaDoorTie.lean); close each card by the builder's one call (the guide's Derived/Test/ToyasCard.lean, 'card_holds'). Laid BY PROGRAM, IN A SANDBOX (cutbox-door.mjs). By AI agents, Wed Nov 11 2026. No macro, syntax, notation, axiom, sorry.
-/
import Derived.Test.YtgpjbigelblanaaDoorRows
import GoSem.ClaimSeven
namespace Go.Proofs.YtgpjbigelblanaaDoor
namespace Rows

/-- THE TIED CARD OF 'consignorlaw14.StockCount'. -/
def stockCountCard : Claim7 := { stood := { row := stockCountRow, standIns := [], harness := (true, "a334e311a252b2e99fb3b065cf18d137b08bd15b11a0ed9681b5524fb2bbee9c"), looks := true }, kinds := [], alts := [], laidByText := true, laidKinds := [.data, .data, .data, .data, .sentinel, .sentinel, .data, .mapped, .mapped, .pinned], laidTests := true, laidLooks := .later }
def StockCountCardSaid : Prop := Claim7.holds Tryd.pinned (.plain (OpenSpec.ofChange stockCountSpec)) stockCountCard

/-- THE TIED CARD OF 'consignorlaw15.ManifestTotal'. -/
def manifestTotalCard : Claim7 := { stood := { row := manifestTotalRow, standIns := [], harness := (true, "a334e311a252b2e99fb3b065cf18d137b08bd15b11a0ed9681b5524fb2bbee9c"), looks := true }, kinds := [], alts := [], laidByText := true, laidKinds := [.data, .data, .data, .data, .sentinel, .sentinel, .data, .pinned], laidTests := true, laidLooks := .later }
def ManifestTotalCardSaid : Prop := Claim7.holds Tryd.pinned (.plain (OpenSpec.ofChange manifestTotalSpec)) manifestTotalCard

/-- THE TIED CARD OF 'consignorlaw14.StockBack'. -/
def stockBackCard : Claim7 := { stood := { row := stockBackRow, standIns := [], harness := (true, "a334e311a252b2e99fb3b065cf18d137b08bd15b11a0ed9681b5524fb2bbee9c"), looks := true }, kinds := [], alts := [], laidByText := true, laidKinds := [.data, .data, .data, .data, .sentinel, .sentinel, .data, .mapped, .mapped, .pinned], laidTests := true, laidLooks := .later }
def StockBackCardSaid : Prop := Claim7.holds Tryd.pinned (.plain (OpenSpec.ofChange stockBackSpec)) stockBackCard

/-- THE TIED CARD OF 'consignorlaw14.StockForm'. -/
def stockFormCard : Claim7 := { stood := { row := stockFormRow, standIns := [], harness := (true, "a334e311a252b2e99fb3b065cf18d137b08bd15b11a0ed9681b5524fb2bbee9c"), looks := true }, kinds := [], alts := [], laidByText := true, laidKinds := [.data, .data, .data, .data, .sentinel, .sentinel, .data, .mapped, .mapped, .pinned], laidTests := true, laidLooks := .later }
def StockFormCardSaid : Prop := Claim7.holds Tryd.pinned (.plain (OpenSpec.ofChange stockFormSpec)) stockFormCard

/-- THE SECOND FORM's CARD OF 'consignorlaw14.StockCount'. -/
def stockCountUptoCard : Claim7 := { stood := { row := stockCountUptoRow, standIns := [], harness := (true, "a334e311a252b2e99fb3b065cf18d137b08bd15b11a0ed9681b5524fb2bbee9c"), looks := true }, kinds := [], alts := [], laidByText := true, laidKinds := [.data, .data, .data, .data, .sentinel, .sentinel, .data, .mapped, .mapped, .pinned], laidTests := true, laidLooks := .later }
def StockCountUptoCardSaid : Prop := Claim7.holds Tryd.pinned (.plain (OpenSpec.upto stockCountSpec)) stockCountUptoCard

/-- THE SECOND FORM's CARD OF 'consignorlaw15.ManifestTotal'. -/
def manifestTotalUptoCard : Claim7 := { stood := { row := manifestTotalUptoRow, standIns := [], harness := (true, "a334e311a252b2e99fb3b065cf18d137b08bd15b11a0ed9681b5524fb2bbee9c"), looks := true }, kinds := [], alts := [], laidByText := true, laidKinds := [.data, .data, .data, .data, .sentinel, .sentinel, .data, .pinned], laidTests := true, laidLooks := .later }
def ManifestTotalUptoCardSaid : Prop := Claim7.holds Tryd.pinned (.plain (OpenSpec.upto manifestTotalSpec)) manifestTotalUptoCard

/-- THE SECOND FORM's CARD OF 'consignorlaw14.StockBack'. -/
def stockBackUptoCard : Claim7 := { stood := { row := stockBackUptoRow, standIns := [], harness := (true, "a334e311a252b2e99fb3b065cf18d137b08bd15b11a0ed9681b5524fb2bbee9c"), looks := true }, kinds := [], alts := [], laidByText := true, laidKinds := [.data, .data, .data, .data, .sentinel, .sentinel, .data, .mapped, .mapped, .pinned], laidTests := true, laidLooks := .later }
def StockBackUptoCardSaid : Prop := Claim7.holds Tryd.pinned (.plain (OpenSpec.upto stockBackSpec)) stockBackUptoCard

/-- THE SECOND FORM's CARD OF 'consignorlaw14.StockForm'. -/
def stockFormUptoCard : Claim7 := { stood := { row := stockFormUptoRow, standIns := [], harness := (true, "a334e311a252b2e99fb3b065cf18d137b08bd15b11a0ed9681b5524fb2bbee9c"), looks := true }, kinds := [], alts := [], laidByText := true, laidKinds := [.data, .data, .data, .data, .sentinel, .sentinel, .data, .mapped, .mapped, .pinned], laidTests := true, laidLooks := .later }
def StockFormUptoCardSaid : Prop := Claim7.holds Tryd.pinned (.plain (OpenSpec.upto stockFormSpec)) stockFormUptoCard
end Rows
end Go.Proofs.YtgpjbigelblanaaDoor
