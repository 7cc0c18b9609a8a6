/-
  DERIVED. GIVEN WITH THE SEED: THE CARDS: each row of YtlfibaijpimocaaDoorRows.lean that lists a variable, with what it lists TIED to the program's text (the seventh form; the later family's looks); each row that meets fmt, with fmt's text TOLD by the authors' own Lean function (tested against real Go, not proved from fmt's source: count such statements apart). THE CARD IS WHAT COUNTS. Prove the row's statement (the work); the ties are given (YtlfibaijpimocaaDoorTie.lean); close each card by the builder's one call (the guide's Derived/Test/ToyasCard.lean, 'card_holds'). Laid BY PROGRAM, IN A SANDBOX (cutbox-door.mjs). By AI agents, Wed Nov 11 2026. No macro, syntax, notation, axiom, sorry.
-/
import Derived.Test.YtlfibaijpimocaaDoorRows
import GoSem.ClaimSeven
namespace Go.Proofs.YtlfibaijpimocaaDoor
namespace Rows

/-- THE TIED CARD OF 'consignorlaw22.MatchFind'. -/
def matchFindCard : Claim7 := { stood := { row := matchFindRow, standIns := [], harness := (true, "e13c1717e625833c1fc287a510b2dcab62c31707791e6fab2e06e0bc4cef1e69"), looks := false }, kinds := [], alts := [], laidByText := true, laidKinds := [.data], laidTests := true, laidLooks := .later }
def MatchFindCardSaid : Prop := Claim7.holds Tryd.pinned (.plain (OpenSpec.ofChange matchFindSpec)) matchFindCard

/-- THE TIED CARD OF 'consignorlaw22.MatchOnce'. -/
def matchOnceCard : Claim7 := { stood := { row := matchOnceRow, standIns := [], harness := (true, "e13c1717e625833c1fc287a510b2dcab62c31707791e6fab2e06e0bc4cef1e69"), looks := false }, kinds := [], alts := [], laidByText := true, laidKinds := [.data], laidTests := true, laidLooks := .later }
def MatchOnceCardSaid : Prop := Claim7.holds Tryd.pinned (.plain (OpenSpec.ofChange matchOnceSpec)) matchOnceCard

/-- THE TIED CARD OF 'consignorlaw22.MatchAgree'. -/
def matchAgreeCard : Claim7 := { stood := { row := matchAgreeRow, standIns := [], harness := (true, "e13c1717e625833c1fc287a510b2dcab62c31707791e6fab2e06e0bc4cef1e69"), looks := false }, kinds := [], alts := [], laidByText := true, laidKinds := [.data], laidTests := true, laidLooks := .later }
def MatchAgreeCardSaid : Prop := Claim7.holds Tryd.pinned (.plain (OpenSpec.ofChange matchAgreeSpec)) matchAgreeCard

/-- THE TIED CARD OF 'consignorlaw24.CoreZero'. -/
def coreZeroCard : Claim7 := { stood := { row := coreZeroRow, standIns := [], harness := (true, "e13c1717e625833c1fc287a510b2dcab62c31707791e6fab2e06e0bc4cef1e69"), looks := false }, kinds := [], alts := [], laidByText := true, laidKinds := [.data, .data, .data, .data, .mapped], laidTests := true, laidLooks := .later }
def CoreZeroCardSaid : Prop := Claim7.holds Tryd.pinned (.plain (OpenSpec.ofChange coreZeroSpec)) coreZeroCard

/-- THE TIED CARD OF 'consignorlaw24.CoreParts'. -/
def corePartsCard : Claim7 := { stood := { row := corePartsRow, standIns := [], harness := (true, "e13c1717e625833c1fc287a510b2dcab62c31707791e6fab2e06e0bc4cef1e69"), looks := false }, kinds := [], alts := [], laidByText := true, laidKinds := [.data, .data, .data, .data, .mapped], laidTests := true, laidLooks := .later }
def CorePartsCardSaid : Prop := Claim7.holds Tryd.pinned (.plain (OpenSpec.ofChange corePartsSpec)) corePartsCard

/-- THE SECOND FORM's CARD OF 'consignorlaw22.MatchFind'. -/
def matchFindUptoCard : Claim7 := { stood := { row := matchFindUptoRow, standIns := [], harness := (true, "e13c1717e625833c1fc287a510b2dcab62c31707791e6fab2e06e0bc4cef1e69"), looks := false }, kinds := [], alts := [], laidByText := true, laidKinds := [.data], laidTests := true, laidLooks := .later }
def MatchFindUptoCardSaid : Prop := Claim7.holds Tryd.pinned (.plain (OpenSpec.upto matchFindSpec)) matchFindUptoCard

/-- THE SECOND FORM's CARD OF 'consignorlaw22.MatchOnce'. -/
def matchOnceUptoCard : Claim7 := { stood := { row := matchOnceUptoRow, standIns := [], harness := (true, "e13c1717e625833c1fc287a510b2dcab62c31707791e6fab2e06e0bc4cef1e69"), looks := false }, kinds := [], alts := [], laidByText := true, laidKinds := [.data], laidTests := true, laidLooks := .later }
def MatchOnceUptoCardSaid : Prop := Claim7.holds Tryd.pinned (.plain (OpenSpec.upto matchOnceSpec)) matchOnceUptoCard

/-- THE SECOND FORM's CARD OF 'consignorlaw22.MatchAgree'. -/
def matchAgreeUptoCard : Claim7 := { stood := { row := matchAgreeUptoRow, standIns := [], harness := (true, "e13c1717e625833c1fc287a510b2dcab62c31707791e6fab2e06e0bc4cef1e69"), looks := false }, kinds := [], alts := [], laidByText := true, laidKinds := [.data], laidTests := true, laidLooks := .later }
def MatchAgreeUptoCardSaid : Prop := Claim7.holds Tryd.pinned (.plain (OpenSpec.upto matchAgreeSpec)) matchAgreeUptoCard

/-- THE SECOND FORM's CARD OF 'consignorlaw24.CoreZero'. -/
def coreZeroUptoCard : Claim7 := { stood := { row := coreZeroUptoRow, standIns := [], harness := (true, "e13c1717e625833c1fc287a510b2dcab62c31707791e6fab2e06e0bc4cef1e69"), looks := false }, kinds := [], alts := [], laidByText := true, laidKinds := [.data, .data, .data, .data, .mapped], laidTests := true, laidLooks := .later }
def CoreZeroUptoCardSaid : Prop := Claim7.holds Tryd.pinned (.plain (OpenSpec.upto coreZeroSpec)) coreZeroUptoCard

/-- THE SECOND FORM's CARD OF 'consignorlaw24.CoreParts'. -/
def corePartsUptoCard : Claim7 := { stood := { row := corePartsUptoRow, standIns := [], harness := (true, "e13c1717e625833c1fc287a510b2dcab62c31707791e6fab2e06e0bc4cef1e69"), looks := false }, kinds := [], alts := [], laidByText := true, laidKinds := [.data, .data, .data, .data, .mapped], laidTests := true, laidLooks := .later }
def CorePartsUptoCardSaid : Prop := Claim7.holds Tryd.pinned (.plain (OpenSpec.upto corePartsSpec)) corePartsUptoCard
end Rows
end Go.Proofs.YtlfibaijpimocaaDoor
