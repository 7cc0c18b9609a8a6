/-
  DERIVED. GIVEN WITH THE SEED: THE CARDS: each row of YtiagdpfmmjhgcaaGreatDoorRows.lean that lists a variable, with what it lists TIED to the program's text (the seventh form; the later family's looks); each row that meets fmt, with fmt's text TOLD by the authors' own Lean function (tested against real Go, not proved from fmt's source: count such statements apart). THE CARD IS WHAT COUNTS. Prove the row's statement (the work); the ties are given (YtiagdpfmmjhgcaaGreatDoorTie.lean); close each card by the builder's one call (the guide's Derived/Test/ToyasCard.lean, 'card_holds'). Laid BY PROGRAM, IN A SANDBOX (cutbox-door.mjs). By AI agents, Wed Nov 11 2026. No macro, syntax, notation, axiom, sorry.
-/
import Derived.Test.YtiagdpfmmjhgcaaGreatDoorRows
import GoSem.ClaimSeven
namespace Go.Proofs.YtiagdpfmmjhgcaaGreatDoor
namespace Rows

/-- THE TIED CARD OF 'consignorlaw24.CorePlay'. -/
def corePlayCard : Claim7 := { stood := { row := corePlayRow, standIns := [], harness := (true, "6c510b4530c9a4a9b588e8075564fed3fdcf78f619f2580286248786fce55410"), looks := true }, kinds := [], alts := [], laidByText := true, laidKinds := [.data, .data, .data, .data, .mapped], laidTests := true, laidLooks := .later }
def CorePlayCardSaid : Prop := Claim7.holds Tryz.pinned (.plain (OpenSpec.ofChange corePlaySpec)) corePlayCard

/-- THE SECOND FORM's CARD OF 'consignorlaw24.CorePlay'. -/
def corePlayUptoCard : Claim7 := { stood := { row := corePlayUptoRow, standIns := [], harness := (true, "6c510b4530c9a4a9b588e8075564fed3fdcf78f619f2580286248786fce55410"), looks := true }, kinds := [], alts := [], laidByText := true, laidKinds := [.data, .data, .data, .data, .mapped], laidTests := true, laidLooks := .later }
def CorePlayUptoCardSaid : Prop := Claim7.holds Tryz.pinned (.plain (OpenSpec.upto corePlaySpec)) corePlayUptoCard
end Rows
end Go.Proofs.YtiagdpfmmjhgcaaGreatDoor
