/-
  DERIVED. GIVEN WITH THE SEED: THE CARDS: each row of YtlfibaijpimocaaGreatDoorRows.lean that lists a variable, with what it lists TIED to the program's text (the seventh form; the later family's looks); each row that meets fmt, with fmt's text TOLD by the authors' own Lean function (tested against real Go, not proved from fmt's source: count such statements apart). THE CARD IS WHAT COUNTS. Prove the row's statement (the work); the ties are given (YtlfibaijpimocaaGreatDoorTie.lean); close each card by the builder's one call (the guide's Derived/Test/ToyasCard.lean, 'card_holds'). Laid BY PROGRAM, IN A SANDBOX (cutbox-door.mjs). By AI agents, Wed Nov 11 2026. No macro, syntax, notation, axiom, sorry.
-/
import Derived.Test.YtlfibaijpimocaaGreatDoorRows
import GoSem.ClaimSeven
namespace Go.Proofs.YtlfibaijpimocaaGreatDoor
namespace Rows

/-- THE TIED CARD OF 'consignorlaw24.CorePlay'. -/
def corePlayCard : Claim7 := { stood := { row := corePlayRow, standIns := [], harness := (true, "c4a0118e5c0deb04c725498ccb7a94e12019924adbddde2acfb9c7ed2f713873"), looks := true }, kinds := [], alts := [], laidByText := true, laidKinds := [.data, .data, .data, .data, .mapped], laidTests := true, laidLooks := .later }
def CorePlayCardSaid : Prop := Claim7.holds Tryz.pinned (.plain (OpenSpec.ofChange corePlaySpec)) corePlayCard

/-- THE TIED CARD OF 'consignorlaw24.CoreNone'. -/
def coreNoneCard : Claim7 := { stood := { row := coreNoneRow, standIns := [], harness := (true, "c4a0118e5c0deb04c725498ccb7a94e12019924adbddde2acfb9c7ed2f713873"), looks := true }, kinds := [], alts := [], laidByText := true, laidKinds := [.data, .data, .data, .data, .mapped], laidTests := true, laidLooks := .later }
def CoreNoneCardSaid : Prop := Claim7.holds Tryz.pinned (.plain (OpenSpec.ofChange coreNoneSpec)) coreNoneCard

/-- THE SECOND FORM's CARD OF 'consignorlaw24.CorePlay'. -/
def corePlayUptoCard : Claim7 := { stood := { row := corePlayUptoRow, standIns := [], harness := (true, "c4a0118e5c0deb04c725498ccb7a94e12019924adbddde2acfb9c7ed2f713873"), looks := true }, kinds := [], alts := [], laidByText := true, laidKinds := [.data, .data, .data, .data, .mapped], laidTests := true, laidLooks := .later }
def CorePlayUptoCardSaid : Prop := Claim7.holds Tryz.pinned (.plain (OpenSpec.upto corePlaySpec)) corePlayUptoCard

/-- THE SECOND FORM's CARD OF 'consignorlaw24.CoreNone'. -/
def coreNoneUptoCard : Claim7 := { stood := { row := coreNoneUptoRow, standIns := [], harness := (true, "c4a0118e5c0deb04c725498ccb7a94e12019924adbddde2acfb9c7ed2f713873"), looks := true }, kinds := [], alts := [], laidByText := true, laidKinds := [.data, .data, .data, .data, .mapped], laidTests := true, laidLooks := .later }
def CoreNoneUptoCardSaid : Prop := Claim7.holds Tryz.pinned (.plain (OpenSpec.upto coreNoneSpec)) coreNoneUptoCard
end Rows
end Go.Proofs.YtlfibaijpimocaaGreatDoor
