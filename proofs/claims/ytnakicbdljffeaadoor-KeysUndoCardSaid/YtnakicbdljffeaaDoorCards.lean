/-
  DERIVED. GIVEN WITH THE SEED: THE CARDS: each row of YtnakicbdljffeaaDoorRows.lean that lists a variable, with what it lists TIED to the program's text (the seventh form; the later family's looks); each row that meets fmt, with fmt's text TOLD by the authors' own Lean function (tested against real Go, not proved from fmt's source: count such statements apart). THE CARD IS WHAT COUNTS. Prove the row's statement (the work); the ties are given (YtnakicbdljffeaaDoorTie.lean); close each card by the builder's one call (the guide's Derived/Test/ToyasCard.lean, 'card_holds'). Laid BY PROGRAM, IN A SANDBOX (cutbox-door.mjs). By AI agents, Wed Nov 11 2026. No macro, syntax, notation, axiom, sorry.
-/
import Derived.Test.YtnakicbdljffeaaDoorRows
import GoSem.ClaimSeven
namespace Go.Proofs.YtnakicbdljffeaaDoor
namespace Rows

/-- THE TIED CARD OF 'consignorlaw10.KeysTell'. -/
def keysTellCard : Claim7 := { stood := { row := keysTellRow, standIns := [], harness := (true, "f11ca0e99d009b8a379f0924865d0fab1fe8bee8ca76be3c9623f7c5c548334a"), looks := true }, kinds := [], alts := [], laidByText := true, laidKinds := [.data, .data, .data, .sentinel, .sentinel, .data, .mapped], laidTests := true, laidLooks := .later }
def KeysTellCardSaid : Prop := Claim7.holds Tryd.pinned (.plain (OpenSpec.ofChange keysTellSpec)) keysTellCard

/-- THE TIED CARD OF 'consignorlaw10.KeysGet'. -/
def keysGetCard : Claim7 := { stood := { row := keysGetRow, standIns := [], harness := (true, "f11ca0e99d009b8a379f0924865d0fab1fe8bee8ca76be3c9623f7c5c548334a"), looks := true }, kinds := [], alts := [], laidByText := true, laidKinds := [.data, .data, .data, .sentinel, .sentinel, .data, .mapped], laidTests := true, laidLooks := .later }
def KeysGetCardSaid : Prop := Claim7.holds Tryd.pinned (.plain (OpenSpec.ofChange keysGetSpec)) keysGetCard

/-- THE TIED CARD OF 'consignorlaw10.KeysBack'. -/
def keysBackCard : Claim7 := { stood := { row := keysBackRow, standIns := [], harness := (true, "f11ca0e99d009b8a379f0924865d0fab1fe8bee8ca76be3c9623f7c5c548334a"), looks := true }, kinds := [], alts := [], laidByText := true, laidKinds := [.data, .data, .data, .sentinel, .sentinel, .data, .mapped], laidTests := true, laidLooks := .later }
def KeysBackCardSaid : Prop := Claim7.holds Tryd.pinned (.plain (OpenSpec.ofChange keysBackSpec)) keysBackCard

/-- THE TIED CARD OF 'consignorlaw10.KeysUndo'. -/
def keysUndoCard : Claim7 := { stood := { row := keysUndoRow, standIns := [], harness := (true, "f11ca0e99d009b8a379f0924865d0fab1fe8bee8ca76be3c9623f7c5c548334a"), looks := true }, kinds := [], alts := [], laidByText := true, laidKinds := [.data, .data, .data, .sentinel, .sentinel, .data, .mapped], laidTests := true, laidLooks := .later }
def KeysUndoCardSaid : Prop := Claim7.holds Tryd.pinned (.plain (OpenSpec.ofChange keysUndoSpec)) keysUndoCard

/-- THE SECOND FORM's CARD OF 'consignorlaw10.KeysTell'. -/
def keysTellUptoCard : Claim7 := { stood := { row := keysTellUptoRow, standIns := [], harness := (true, "f11ca0e99d009b8a379f0924865d0fab1fe8bee8ca76be3c9623f7c5c548334a"), looks := true }, kinds := [], alts := [], laidByText := true, laidKinds := [.data, .data, .data, .sentinel, .sentinel, .data, .mapped], laidTests := true, laidLooks := .later }
def KeysTellUptoCardSaid : Prop := Claim7.holds Tryd.pinned (.plain (OpenSpec.upto keysTellSpec)) keysTellUptoCard

/-- THE SECOND FORM's CARD OF 'consignorlaw10.KeysGet'. -/
def keysGetUptoCard : Claim7 := { stood := { row := keysGetUptoRow, standIns := [], harness := (true, "f11ca0e99d009b8a379f0924865d0fab1fe8bee8ca76be3c9623f7c5c548334a"), looks := true }, kinds := [], alts := [], laidByText := true, laidKinds := [.data, .data, .data, .sentinel, .sentinel, .data, .mapped], laidTests := true, laidLooks := .later }
def KeysGetUptoCardSaid : Prop := Claim7.holds Tryd.pinned (.plain (OpenSpec.upto keysGetSpec)) keysGetUptoCard

/-- THE SECOND FORM's CARD OF 'consignorlaw10.KeysBack'. -/
def keysBackUptoCard : Claim7 := { stood := { row := keysBackUptoRow, standIns := [], harness := (true, "f11ca0e99d009b8a379f0924865d0fab1fe8bee8ca76be3c9623f7c5c548334a"), looks := true }, kinds := [], alts := [], laidByText := true, laidKinds := [.data, .data, .data, .sentinel, .sentinel, .data, .mapped], laidTests := true, laidLooks := .later }
def KeysBackUptoCardSaid : Prop := Claim7.holds Tryd.pinned (.plain (OpenSpec.upto keysBackSpec)) keysBackUptoCard

/-- THE SECOND FORM's CARD OF 'consignorlaw10.KeysUndo'. -/
def keysUndoUptoCard : Claim7 := { stood := { row := keysUndoUptoRow, standIns := [], harness := (true, "f11ca0e99d009b8a379f0924865d0fab1fe8bee8ca76be3c9623f7c5c548334a"), looks := true }, kinds := [], alts := [], laidByText := true, laidKinds := [.data, .data, .data, .sentinel, .sentinel, .data, .mapped], laidTests := true, laidLooks := .later }
def KeysUndoUptoCardSaid : Prop := Claim7.holds Tryd.pinned (.plain (OpenSpec.upto keysUndoSpec)) keysUndoUptoCard
end Rows
end Go.Proofs.YtnakicbdljffeaaDoor
