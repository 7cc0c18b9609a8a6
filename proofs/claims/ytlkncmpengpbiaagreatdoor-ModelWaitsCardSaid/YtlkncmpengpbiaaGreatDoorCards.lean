/-
  DERIVED. GIVEN WITH THE SEED: THE CARDS: each row of YtlkncmpengpbiaaGreatDoorRows.lean that lists a variable, with what it lists TIED to the program's text (the seventh form; the later family's looks); each row that meets fmt, with fmt's text TOLD by the authors' own Lean function (tested against real Go, not proved from fmt's source: count such statements apart). THE CARD IS WHAT COUNTS. Prove the row's statement (the work); the ties are given (YtlkncmpengpbiaaGreatDoorTie.lean); close each card by the builder's one call (the guide's Derived/Test/ToyasCard.lean, 'card_holds'). Laid BY PROGRAM, IN A SANDBOX (cutbox-door.mjs). By AI agents, Wed Nov 11 2026. No macro, syntax, notation, axiom, sorry.
-/
import Derived.Test.YtlkncmpengpbiaaGreatDoorRows
import GoSem.ClaimSeven
namespace Go.Proofs.YtlkncmpengpbiaaGreatDoor
namespace Rows

/-- THE TIED CARD OF 'consignorlaw26.ModelWaits'. -/
def modelWaitsCard : Claim7 := { stood := { row := modelWaitsRow, standIns := [], harness := (true, "abfa8fef9f47e066ac6d5e7e61d60b83de65f936373946f6f58c104e7095c328"), looks := true }, kinds := [], alts := [], laidByText := true, laidKinds := [.data, .data, .data, .data, .mapped], laidTests := true, laidLooks := .later }
def ModelWaitsCardSaid : Prop := Claim7.holds Tryz.pinned (.plain (OpenSpec.ofChange modelWaitsSpec)) modelWaitsCard

/-- THE TIED CARD OF 'consignorlaw26.ModelNone'. -/
def modelNoneCard : Claim7 := { stood := { row := modelNoneRow, standIns := [], harness := (true, "abfa8fef9f47e066ac6d5e7e61d60b83de65f936373946f6f58c104e7095c328"), looks := true }, kinds := [], alts := [], laidByText := true, laidKinds := [.data, .data, .data, .data, .mapped], laidTests := true, laidLooks := .later }
def ModelNoneCardSaid : Prop := Claim7.holds Tryz.pinned (.plain (OpenSpec.ofChange modelNoneSpec)) modelNoneCard

/-- THE TIED CARD OF 'consignorlaw26.ModelPlay'. -/
def modelPlayCard : Claim7 := { stood := { row := modelPlayRow, standIns := [], harness := (true, "abfa8fef9f47e066ac6d5e7e61d60b83de65f936373946f6f58c104e7095c328"), looks := true }, kinds := [], alts := [], laidByText := true, laidKinds := [.data, .data, .data, .data, .mapped], laidTests := true, laidLooks := .later }
def ModelPlayCardSaid : Prop := Claim7.holds Tryz.pinned (.plain (OpenSpec.ofChange modelPlaySpec)) modelPlayCard

/-- THE SECOND FORM's CARD OF 'consignorlaw26.ModelWaits'. -/
def modelWaitsUptoCard : Claim7 := { stood := { row := modelWaitsUptoRow, standIns := [], harness := (true, "abfa8fef9f47e066ac6d5e7e61d60b83de65f936373946f6f58c104e7095c328"), looks := true }, kinds := [], alts := [], laidByText := true, laidKinds := [.data, .data, .data, .data, .mapped], laidTests := true, laidLooks := .later }
def ModelWaitsUptoCardSaid : Prop := Claim7.holds Tryz.pinned (.plain (OpenSpec.upto modelWaitsSpec)) modelWaitsUptoCard

/-- THE SECOND FORM's CARD OF 'consignorlaw26.ModelNone'. -/
def modelNoneUptoCard : Claim7 := { stood := { row := modelNoneUptoRow, standIns := [], harness := (true, "abfa8fef9f47e066ac6d5e7e61d60b83de65f936373946f6f58c104e7095c328"), looks := true }, kinds := [], alts := [], laidByText := true, laidKinds := [.data, .data, .data, .data, .mapped], laidTests := true, laidLooks := .later }
def ModelNoneUptoCardSaid : Prop := Claim7.holds Tryz.pinned (.plain (OpenSpec.upto modelNoneSpec)) modelNoneUptoCard

/-- THE SECOND FORM's CARD OF 'consignorlaw26.ModelPlay'. -/
def modelPlayUptoCard : Claim7 := { stood := { row := modelPlayUptoRow, standIns := [], harness := (true, "abfa8fef9f47e066ac6d5e7e61d60b83de65f936373946f6f58c104e7095c328"), looks := true }, kinds := [], alts := [], laidByText := true, laidKinds := [.data, .data, .data, .data, .mapped], laidTests := true, laidLooks := .later }
def ModelPlayUptoCardSaid : Prop := Claim7.holds Tryz.pinned (.plain (OpenSpec.upto modelPlaySpec)) modelPlayUptoCard
end Rows
end Go.Proofs.YtlkncmpengpbiaaGreatDoor
