/-
  DERIVED. GIVEN WITH THE SEED: THE CARDS: each row of YtkmpagijdhhinaaDoorRows.lean that lists a variable, with what it lists TIED to the program's text (the seventh form; the later family's looks); each row that meets fmt, with fmt's text TOLD by the authors' own Lean function (tested against real Go, not proved from fmt's source: count such statements apart). THE CARD IS WHAT COUNTS. Prove the row's statement (the work); the ties are given (YtkmpagijdhhinaaDoorTie.lean); close each card by the builder's one call (the guide's Derived/Test/ToyasCard.lean, 'card_holds'). Laid BY PROGRAM, IN A SANDBOX (cutbox-door.mjs). By AI agents, Wed Nov 11 2026. No macro, syntax, notation, axiom, sorry.
-/
import Derived.Test.YtkmpagijdhhinaaDoorRows
import GoSem.ClaimSeven
namespace Go.Proofs.YtkmpagijdhhinaaDoor
namespace Rows

/-- THE TIED CARD OF 'consignorlaw16.PartyAsks'. -/
def partyAsksCard : Claim7 := { stood := { row := partyAsksRow, standIns := [], harness := (true, "a004d8b5a9c4953a15104ca2dc00c60246759b797f664c8de9229a1e0bde9147"), looks := true }, kinds := [], alts := [], laidByText := true, laidKinds := [.data], laidTests := true, laidLooks := .later }
def PartyAsksCardSaid : Prop := Claim7.holds Tryd.pinned (.plain (OpenSpec.ofChange partyAsksSpec)) partyAsksCard

/-- THE TIED CARD OF 'consignorlaw16.PartyNone'. -/
def partyNoneCard : Claim7 := { stood := { row := partyNoneRow, standIns := [], harness := (true, "a004d8b5a9c4953a15104ca2dc00c60246759b797f664c8de9229a1e0bde9147"), looks := true }, kinds := [], alts := [], laidByText := true, laidKinds := [.data], laidTests := true, laidLooks := .later }
def PartyNoneCardSaid : Prop := Claim7.holds Tryd.pinned (.plain (OpenSpec.ofChange partyNoneSpec)) partyNoneCard

/-- THE TIED CARD OF 'consignorlaw16.PartyOnce'. -/
def partyOnceCard : Claim7 := { stood := { row := partyOnceRow, standIns := [], harness := (true, "a004d8b5a9c4953a15104ca2dc00c60246759b797f664c8de9229a1e0bde9147"), looks := true }, kinds := [], alts := [], laidByText := true, laidKinds := [.data], laidTests := true, laidLooks := .later }
def PartyOnceCardSaid : Prop := Claim7.holds Tryd.pinned (.plain (OpenSpec.ofChange partyOnceSpec)) partyOnceCard

/-- THE TIED CARD OF 'consignorlaw16.PartyBook'. -/
def partyBookCard : Claim7 := { stood := { row := partyBookRow, standIns := [], harness := (true, "a004d8b5a9c4953a15104ca2dc00c60246759b797f664c8de9229a1e0bde9147"), looks := true }, kinds := [], alts := [], laidByText := true, laidKinds := [.data], laidTests := true, laidLooks := .later }
def PartyBookCardSaid : Prop := Claim7.holds Tryd.pinned (.plain (OpenSpec.ofChange partyBookSpec)) partyBookCard

/-- THE TIED CARD OF 'consignorlaw16.PartyBarred'. -/
def partyBarredCard : Claim7 := { stood := { row := partyBarredRow, standIns := [], harness := (true, "a004d8b5a9c4953a15104ca2dc00c60246759b797f664c8de9229a1e0bde9147"), looks := true }, kinds := [], alts := [], laidByText := true, laidKinds := [.data], laidTests := true, laidLooks := .later }
def PartyBarredCardSaid : Prop := Claim7.holds Tryd.pinned (.plain (OpenSpec.ofChange partyBarredSpec)) partyBarredCard

/-- THE SECOND FORM's CARD OF 'consignorlaw16.PartyAsks'. -/
def partyAsksUptoCard : Claim7 := { stood := { row := partyAsksUptoRow, standIns := [], harness := (true, "a004d8b5a9c4953a15104ca2dc00c60246759b797f664c8de9229a1e0bde9147"), looks := true }, kinds := [], alts := [], laidByText := true, laidKinds := [.data], laidTests := true, laidLooks := .later }
def PartyAsksUptoCardSaid : Prop := Claim7.holds Tryd.pinned (.plain (OpenSpec.upto partyAsksSpec)) partyAsksUptoCard

/-- THE SECOND FORM's CARD OF 'consignorlaw16.PartyNone'. -/
def partyNoneUptoCard : Claim7 := { stood := { row := partyNoneUptoRow, standIns := [], harness := (true, "a004d8b5a9c4953a15104ca2dc00c60246759b797f664c8de9229a1e0bde9147"), looks := true }, kinds := [], alts := [], laidByText := true, laidKinds := [.data], laidTests := true, laidLooks := .later }
def PartyNoneUptoCardSaid : Prop := Claim7.holds Tryd.pinned (.plain (OpenSpec.upto partyNoneSpec)) partyNoneUptoCard

/-- THE SECOND FORM's CARD OF 'consignorlaw16.PartyOnce'. -/
def partyOnceUptoCard : Claim7 := { stood := { row := partyOnceUptoRow, standIns := [], harness := (true, "a004d8b5a9c4953a15104ca2dc00c60246759b797f664c8de9229a1e0bde9147"), looks := true }, kinds := [], alts := [], laidByText := true, laidKinds := [.data], laidTests := true, laidLooks := .later }
def PartyOnceUptoCardSaid : Prop := Claim7.holds Tryd.pinned (.plain (OpenSpec.upto partyOnceSpec)) partyOnceUptoCard

/-- THE SECOND FORM's CARD OF 'consignorlaw16.PartyBook'. -/
def partyBookUptoCard : Claim7 := { stood := { row := partyBookUptoRow, standIns := [], harness := (true, "a004d8b5a9c4953a15104ca2dc00c60246759b797f664c8de9229a1e0bde9147"), looks := true }, kinds := [], alts := [], laidByText := true, laidKinds := [.data], laidTests := true, laidLooks := .later }
def PartyBookUptoCardSaid : Prop := Claim7.holds Tryd.pinned (.plain (OpenSpec.upto partyBookSpec)) partyBookUptoCard

/-- THE SECOND FORM's CARD OF 'consignorlaw16.PartyBarred'. -/
def partyBarredUptoCard : Claim7 := { stood := { row := partyBarredUptoRow, standIns := [], harness := (true, "a004d8b5a9c4953a15104ca2dc00c60246759b797f664c8de9229a1e0bde9147"), looks := true }, kinds := [], alts := [], laidByText := true, laidKinds := [.data], laidTests := true, laidLooks := .later }
def PartyBarredUptoCardSaid : Prop := Claim7.holds Tryd.pinned (.plain (OpenSpec.upto partyBarredSpec)) partyBarredUptoCard
end Rows
end Go.Proofs.YtkmpagijdhhinaaDoor
