/-
  DERIVED. GIVEN WITH THE SEED: THE CARDS: each row of YtnfbhocppijbjaaDoorRows.lean that lists a variable, with what it lists TIED to the program's text (the seventh form; the later family's looks); each row that meets fmt, with fmt's text TOLD by the authors' own Lean function (tested against real Go, not proved from fmt's source: count such statements apart). THE CARD IS WHAT COUNTS. Prove the row's statement (the work); the ties are given (YtnfbhocppijbjaaDoorTie.lean); close each card by the builder's one call (the guide's Derived/Test/ToyasCard.lean, 'card_holds'). Laid BY PROGRAM, IN A SANDBOX (cutbox-door.mjs). By AI agents, Wed Nov 11 2026. No macro, syntax, notation, axiom, sorry.
-/
import Derived.Test.YtnfbhocppijbjaaDoorRows
import GoSem.ClaimSeven
namespace Go.Proofs.YtnfbhocppijbjaaDoor
namespace Rows

/-- THE TIED CARD OF 'consignorlaw24.CoreParts'. -/
def corePartsCard : Claim7 := { stood := { row := corePartsRow, standIns := [], harness := (true, "c1fc6fb471d4980f45c04945dde2486a1520d46c8e8486a052bfb946d9ac5daa"), looks := false }, kinds := [], alts := [], laidByText := true, laidKinds := [.data, .data, .data, .data, .mapped], laidTests := true, laidLooks := .later }
def CorePartsCardSaid : Prop := Claim7.holds Tryd.pinned (.plain (OpenSpec.ofChange corePartsSpec)) corePartsCard

/-- THE SECOND FORM's CARD OF 'consignorlaw24.CoreParts'. -/
def corePartsUptoCard : Claim7 := { stood := { row := corePartsUptoRow, standIns := [], harness := (true, "c1fc6fb471d4980f45c04945dde2486a1520d46c8e8486a052bfb946d9ac5daa"), looks := false }, kinds := [], alts := [], laidByText := true, laidKinds := [.data, .data, .data, .data, .mapped], laidTests := true, laidLooks := .later }
def CorePartsUptoCardSaid : Prop := Claim7.holds Tryd.pinned (.plain (OpenSpec.upto corePartsSpec)) corePartsUptoCard
end Rows
end Go.Proofs.YtnfbhocppijbjaaDoor
