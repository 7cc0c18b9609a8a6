/-
  NARROWER THAN 'FOR EVERY INPUT', by the rows' own cells (each row's printed sentence says how): PartyAsks: laid · PartyNone: laid · PartyOnce: laid · PartyBook: laid · PartyBarred: laid.
  DERIVED. THE GIVEN ROWS OF THIS SEAT. 5 by the template 'for every input the law returns true; each argument reads behind the call as it read before'; 0 by the template 'total and deterministic' (their statements: YtkmpagijdhhinaaDoorTotals.lean).
  GIVEN WITH THE SEED: the statements are not yours to turn. If you find one false, say at which input.
  Laid BY PROGRAM, IN A SANDBOX (cutbox-rows.mjs): the forced cells as the released guide's own fill.sh prints them over the translation df6cee866fbbc078… (all of the seat's roots in one cut). By AI agents, Wed Nov 11 2026. No macro, syntax, notation, axiom, sorry.
-/
import Derived.Test.YtkmpagijdhhinaaDoorChecked
import GoSem.Claim
import GoSem.ClaimJoined
import GoSem.ClaimMapViews
import Derived.JoinedTies
import Derived.KernelRfl
namespace Go.Proofs.YtkmpagijdhhinaaDoor
/- THE CELL 'sum', in the pinned program and in every row, IS THE sha256 OF THE DUMP (.gsa) THAT YtkmpagijdhhinaaDoorProg.lean LOADS. Nothing in Lean hashes anything: it is a label: what it is worth is what the hold of that sum in a sandbox is worth. -/
noncomputable def Tryd.pinned : Pinned := { name := "ytkmpagijdhhinaadoor", sum := "df6cee866fbbc07854f12410a1f2794e853ad42a2a7b52479ebd6ac8cf76c571", checked := Tryd.checked }
namespace Rows
def none {H : Type} : Left H := { results := [], args := [] }

/- WHAT THE LISTED PACKAGE-LEVEL VARIABLES READ AS WHEN THE CALL BEGINS. Each datum BY PROGRAM (the guide's laid-datum.mjs) off the statement by which the dump's own 'gosem.cut.vars' lays the variable. In a bare row this is a premise. The card (YtkmpagijdhhinaaDoorCards.lean) ties it to the program's text. -/
def laid_consignor_keys_parties {H : Type} : DataW H := .agg [.lit (.int .i64 1), .lit (.int .i64 0), .lit (.int .i64 2), .lit (.int .i64 1), .lit (.int .i64 0), .lit (.int .i64 2)]

/-- 'consignorlaw16.PartyAsks': WHATEVER THE INPUT: true; the input reads as it did. -/
def partyAsksSpec : ChangeSpec := { name := "partyAsks", fn := fun _ => fun
  | [d1, d2, d3] => { results := [.lit (.bool true)], args := [d1, d2, d3] }
  | _ => none }
def partyAsksRow : OpenClaim := { program := "ytkmpagijdhhinaadoor", sum := "df6cee866fbbc07854f12410a1f2794e853ad42a2a7b52479ebd6ac8cf76c571", func := "consignor/consignorlaw16.PartyAsks", spec := "partyAsks", inPlace := ["maps.clone"], unfollowed := true, recurses := true, named := ["consignor/keys.parties"], plainKeys := false, apart := false, laid := [("consignor/keys.parties", laid_consignor_keys_parties)] }
def PartyAsksSaid : Prop := partyAsksRow.holds Tryd.pinned (OpenSpec.ofChange partyAsksSpec)

/-- ITS FALSE NEIGHBOUR: 'it returns false'. Refute it at one input. -/
def partyAsksWrong : ChangeSpec := { name := "partyAsks", fn := fun _ => fun
  | [d1, d2, d3] => { results := [.lit (.bool false)], args := [d1, d2, d3] }
  | _ => none }
def PartyAsksWrongFalsely : Prop := partyAsksRow.holds Tryd.pinned (OpenSpec.ofChange partyAsksWrong)

/-- 'consignorlaw16.PartyNone': WHATEVER THE INPUT: true; the input reads as it did. -/
def partyNoneSpec : ChangeSpec := { name := "partyNone", fn := fun _ => fun
  | [d1, d2] => { results := [.lit (.bool true)], args := [d1, d2] }
  | _ => none }
def partyNoneRow : OpenClaim := { program := "ytkmpagijdhhinaadoor", sum := "df6cee866fbbc07854f12410a1f2794e853ad42a2a7b52479ebd6ac8cf76c571", func := "consignor/consignorlaw16.PartyNone", spec := "partyNone", inPlace := ["maps.clone"], unfollowed := true, recurses := true, named := ["consignor/keys.parties"], plainKeys := false, apart := false, laid := [("consignor/keys.parties", laid_consignor_keys_parties)] }
def PartyNoneSaid : Prop := partyNoneRow.holds Tryd.pinned (OpenSpec.ofChange partyNoneSpec)

/-- ITS FALSE NEIGHBOUR: 'it returns false'. Refute it at one input. -/
def partyNoneWrong : ChangeSpec := { name := "partyNone", fn := fun _ => fun
  | [d1, d2] => { results := [.lit (.bool false)], args := [d1, d2] }
  | _ => none }
def PartyNoneWrongFalsely : Prop := partyNoneRow.holds Tryd.pinned (OpenSpec.ofChange partyNoneWrong)

/-- 'consignorlaw16.PartyOnce': WHATEVER THE INPUT: true; the input reads as it did. -/
def partyOnceSpec : ChangeSpec := { name := "partyOnce", fn := fun _ => fun
  | [d1, d2, d3] => { results := [.lit (.bool true)], args := [d1, d2, d3] }
  | _ => none }
def partyOnceRow : OpenClaim := { program := "ytkmpagijdhhinaadoor", sum := "df6cee866fbbc07854f12410a1f2794e853ad42a2a7b52479ebd6ac8cf76c571", func := "consignor/consignorlaw16.PartyOnce", spec := "partyOnce", inPlace := ["maps.clone"], unfollowed := true, recurses := true, named := ["consignor/keys.parties"], plainKeys := false, apart := false, laid := [("consignor/keys.parties", laid_consignor_keys_parties)] }
def PartyOnceSaid : Prop := partyOnceRow.holds Tryd.pinned (OpenSpec.ofChange partyOnceSpec)

/-- ITS FALSE NEIGHBOUR: 'it returns false'. Refute it at one input. -/
def partyOnceWrong : ChangeSpec := { name := "partyOnce", fn := fun _ => fun
  | [d1, d2, d3] => { results := [.lit (.bool false)], args := [d1, d2, d3] }
  | _ => none }
def PartyOnceWrongFalsely : Prop := partyOnceRow.holds Tryd.pinned (OpenSpec.ofChange partyOnceWrong)

/-- 'consignorlaw16.PartyBook': WHATEVER THE INPUT: true; the input reads as it did. -/
def partyBookSpec : ChangeSpec := { name := "partyBook", fn := fun _ => fun
  | [d1, d2] => { results := [.lit (.bool true)], args := [d1, d2] }
  | _ => none }
def partyBookRow : OpenClaim := { program := "ytkmpagijdhhinaadoor", sum := "df6cee866fbbc07854f12410a1f2794e853ad42a2a7b52479ebd6ac8cf76c571", func := "consignor/consignorlaw16.PartyBook", spec := "partyBook", unfollowed := true, recurses := true, named := ["consignor/keys.parties"], plainKeys := false, apart := false, laid := [("consignor/keys.parties", laid_consignor_keys_parties)] }
def PartyBookSaid : Prop := partyBookRow.holds Tryd.pinned (OpenSpec.ofChange partyBookSpec)

/-- ITS FALSE NEIGHBOUR: 'it returns false'. Refute it at one input. -/
def partyBookWrong : ChangeSpec := { name := "partyBook", fn := fun _ => fun
  | [d1, d2] => { results := [.lit (.bool false)], args := [d1, d2] }
  | _ => none }
def PartyBookWrongFalsely : Prop := partyBookRow.holds Tryd.pinned (OpenSpec.ofChange partyBookWrong)

/-- 'consignorlaw16.PartyBarred': WHATEVER THE INPUT: true; the input reads as it did. -/
def partyBarredSpec : ChangeSpec := { name := "partyBarred", fn := fun _ => fun
  | [d1, d2, d3] => { results := [.lit (.bool true)], args := [d1, d2, d3] }
  | _ => none }
def partyBarredRow : OpenClaim := { program := "ytkmpagijdhhinaadoor", sum := "df6cee866fbbc07854f12410a1f2794e853ad42a2a7b52479ebd6ac8cf76c571", func := "consignor/consignorlaw16.PartyBarred", spec := "partyBarred", unfollowed := true, recurses := true, named := ["consignor/keys.parties"], plainKeys := false, apart := false, laid := [("consignor/keys.parties", laid_consignor_keys_parties)] }
def PartyBarredSaid : Prop := partyBarredRow.holds Tryd.pinned (OpenSpec.ofChange partyBarredSpec)

/-- ITS FALSE NEIGHBOUR: 'it returns false'. Refute it at one input. -/
def partyBarredWrong : ChangeSpec := { name := "partyBarred", fn := fun _ => fun
  | [d1, d2, d3] => { results := [.lit (.bool false)], args := [d1, d2, d3] }
  | _ => none }
def PartyBarredWrongFalsely : Prop := partyBarredRow.holds Tryd.pinned (OpenSpec.ofChange partyBarredWrong)

/- THE SECOND FORM. 'bulk': how many values and letters a reading holds, each counted each time it is reached (what is shared counts as often as it is met; a slice's spare places count too). A statement '..UptoSaid' is the law's where the arguments, and the package variables that the reading takes, are together of bulk at most 1048576: NARROWER than '..Said'. Prove '..Said' where nothing that the law and all that it calls make is longer than what came in: it says more and counts as full. Else prove '..UptoSaid'. A law counts once. -/
mutual
def uptoBulk {H : Type} : DataW H → Nat
  | .lit (.string bytes) => bytes.length + 1
  | .lit _ => 1
  | .nil => 1
  | .ptr d => uptoBulk d + 1
  | .slice elems spare => uptoBulkAll elems + uptoBulkAll spare + 1
  | .agg parts => uptoBulkAll parts + 1
  | .iface _ d => uptoBulk d + 1
  | .map entries => uptoBulkEntries entries + 1
  | .held _ => 1
def uptoBulkAll {H : Type} : List (DataW H) → Nat
  | [] => 0
  | d :: r => uptoBulk d + uptoBulkAll r
def uptoBulkEntries {H : Type} : List (Lit × DataW H) → Nat
  | [] => 0
  | x :: r => uptoBulkEntry x + uptoBulkEntries r
def uptoBulkEntry {H : Type} : Lit × DataW H → Nat
  | (.string bytes, d) => bytes.length + uptoBulk d + 1
  | (_, d) => uptoBulk d + 1
 end
def uptoSmall : (H : Type) → List (DataW H) → Bool := fun _ ds => decide (uptoBulkAll ds ≤ 1048576)
def OpenSpec.upto (s : _root_.Go.ChangeSpec) : _root_.Go.OpenSpec := { _root_.Go.OpenSpec.ofChange s with cond := some uptoSmall }

/-- 'consignorlaw16.PartyAsks', WHERE WHAT IT READS IS OF BULK AT MOST 1048576: true; the input reads as it did. -/
def partyAsksUptoRow : OpenClaim := { program := "ytkmpagijdhhinaadoor", sum := "df6cee866fbbc07854f12410a1f2794e853ad42a2a7b52479ebd6ac8cf76c571", func := "consignor/consignorlaw16.PartyAsks", spec := "partyAsks", inPlace := ["maps.clone"], unfollowed := true, recurses := true, named := ["consignor/keys.parties"], plainKeys := false, apart := false, laid := [("consignor/keys.parties", laid_consignor_keys_parties)], narrowed := true }
def PartyAsksUptoSaid : Prop := partyAsksUptoRow.holds Tryd.pinned (OpenSpec.upto partyAsksSpec)

/-- 'consignorlaw16.PartyNone', WHERE WHAT IT READS IS OF BULK AT MOST 1048576: true; the input reads as it did. -/
def partyNoneUptoRow : OpenClaim := { program := "ytkmpagijdhhinaadoor", sum := "df6cee866fbbc07854f12410a1f2794e853ad42a2a7b52479ebd6ac8cf76c571", func := "consignor/consignorlaw16.PartyNone", spec := "partyNone", inPlace := ["maps.clone"], unfollowed := true, recurses := true, named := ["consignor/keys.parties"], plainKeys := false, apart := false, laid := [("consignor/keys.parties", laid_consignor_keys_parties)], narrowed := true }
def PartyNoneUptoSaid : Prop := partyNoneUptoRow.holds Tryd.pinned (OpenSpec.upto partyNoneSpec)

/-- 'consignorlaw16.PartyOnce', WHERE WHAT IT READS IS OF BULK AT MOST 1048576: true; the input reads as it did. -/
def partyOnceUptoRow : OpenClaim := { program := "ytkmpagijdhhinaadoor", sum := "df6cee866fbbc07854f12410a1f2794e853ad42a2a7b52479ebd6ac8cf76c571", func := "consignor/consignorlaw16.PartyOnce", spec := "partyOnce", inPlace := ["maps.clone"], unfollowed := true, recurses := true, named := ["consignor/keys.parties"], plainKeys := false, apart := false, laid := [("consignor/keys.parties", laid_consignor_keys_parties)], narrowed := true }
def PartyOnceUptoSaid : Prop := partyOnceUptoRow.holds Tryd.pinned (OpenSpec.upto partyOnceSpec)

/-- 'consignorlaw16.PartyBook', WHERE WHAT IT READS IS OF BULK AT MOST 1048576: true; the input reads as it did. -/
def partyBookUptoRow : OpenClaim := { program := "ytkmpagijdhhinaadoor", sum := "df6cee866fbbc07854f12410a1f2794e853ad42a2a7b52479ebd6ac8cf76c571", func := "consignor/consignorlaw16.PartyBook", spec := "partyBook", unfollowed := true, recurses := true, named := ["consignor/keys.parties"], plainKeys := false, apart := false, laid := [("consignor/keys.parties", laid_consignor_keys_parties)], narrowed := true }
def PartyBookUptoSaid : Prop := partyBookUptoRow.holds Tryd.pinned (OpenSpec.upto partyBookSpec)

/-- 'consignorlaw16.PartyBarred', WHERE WHAT IT READS IS OF BULK AT MOST 1048576: true; the input reads as it did. -/
def partyBarredUptoRow : OpenClaim := { program := "ytkmpagijdhhinaadoor", sum := "df6cee866fbbc07854f12410a1f2794e853ad42a2a7b52479ebd6ac8cf76c571", func := "consignor/consignorlaw16.PartyBarred", spec := "partyBarred", unfollowed := true, recurses := true, named := ["consignor/keys.parties"], plainKeys := false, apart := false, laid := [("consignor/keys.parties", laid_consignor_keys_parties)], narrowed := true }
def PartyBarredUptoSaid : Prop := partyBarredUptoRow.holds Tryd.pinned (OpenSpec.upto partyBarredSpec)

end Rows
end Go.Proofs.YtkmpagijdhhinaaDoor
