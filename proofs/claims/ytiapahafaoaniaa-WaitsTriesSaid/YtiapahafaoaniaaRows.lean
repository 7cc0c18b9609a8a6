/-
  No cell of these rows narrows 'for every input' (looked for: loops, veiled, ifaces, maps, wideKeys, modest, calm, conditions, laid).
  DERIVED. THE GIVEN ROWS OF THIS SEAT. 5 by the template 'for every input the law returns true; each argument reads behind the call as it read before'; 0 by the template 'total and deterministic' (their statements: YtiapahafaoaniaaTotals.lean).
  GIVEN WITH THE SEED: the statements are not yours to turn. If you find one false, say at which input.
  Laid BY PROGRAM, IN A SANDBOX (cutbox-rows.mjs): the forced cells as the released guide's own fill.sh prints them over the translation 876636ae043003e9… (all of the seat's roots in one cut). By AI agents, Wed Nov 11 2026. No macro, syntax, notation, axiom, sorry.
-/
import Derived.Test.YtiapahafaoaniaaChecked
import GoSem.Claim
import GoSem.ClaimJoined
import GoSem.ClaimMapViews
import Derived.JoinedTies
import Derived.KernelRfl
namespace Go.Proofs.Ytiapahafaoaniaa
/- THE CELL 'sum', in the pinned program and in every row, IS THE sha256 OF THE DUMP (.gsa) THAT YtiapahafaoaniaaProg.lean LOADS. Nothing in Lean hashes anything: it is a label: what it is worth is what the hold of that sum in a sandbox is worth. -/
noncomputable def Try.pinned : Pinned := { name := "ytiapahafaoaniaa", sum := "876636ae043003e9e54b35af951c783714eb50a7d498770bd9b305ca67e77857", checked := Try.checked }
namespace Rows
def none {H : Type} : Left H := { results := [], args := [] }

/-- 'consignorlaw18.WaitsGap': WHATEVER THE INPUT: true; the input reads as it did. -/
def waitsGapSpec : ChangeSpec := { name := "waitsGap", fn := fun _ => fun
  | [d] => { results := [.lit (.bool true)], args := [d] }
  | _ => none }
def waitsGapRow : OpenClaim := { program := "ytiapahafaoaniaa", sum := "876636ae043003e9e54b35af951c783714eb50a7d498770bd9b305ca67e77857", func := "consignor/consignorlaw18.WaitsGap", spec := "waitsGap", unfollowed := true, recurses := true, plainKeys := false, apart := false }
def WaitsGapSaid : Prop := waitsGapRow.holds Try.pinned (OpenSpec.ofChange waitsGapSpec)

/-- ITS FALSE NEIGHBOUR: 'it returns false'. Refute it at one input. -/
def waitsGapWrong : ChangeSpec := { name := "waitsGap", fn := fun _ => fun
  | [d] => { results := [.lit (.bool false)], args := [d] }
  | _ => none }
def WaitsGapWrongFalsely : Prop := waitsGapRow.holds Try.pinned (OpenSpec.ofChange waitsGapWrong)

/-- 'consignorlaw18.WaitsAlone': WHATEVER THE INPUT: true; the input reads as it did. -/
def waitsAloneSpec : ChangeSpec := { name := "waitsAlone", fn := fun _ => fun
  | [d1, d2, d3] => { results := [.lit (.bool true)], args := [d1, d2, d3] }
  | _ => none }
def waitsAloneRow : OpenClaim := { program := "ytiapahafaoaniaa", sum := "876636ae043003e9e54b35af951c783714eb50a7d498770bd9b305ca67e77857", func := "consignor/consignorlaw18.WaitsAlone", spec := "waitsAlone", unfollowed := true, recurses := true, plainKeys := false, apart := false }
def WaitsAloneSaid : Prop := waitsAloneRow.holds Try.pinned (OpenSpec.ofChange waitsAloneSpec)

/-- ITS FALSE NEIGHBOUR: 'it returns false'. Refute it at one input. -/
def waitsAloneWrong : ChangeSpec := { name := "waitsAlone", fn := fun _ => fun
  | [d1, d2, d3] => { results := [.lit (.bool false)], args := [d1, d2, d3] }
  | _ => none }
def WaitsAloneWrongFalsely : Prop := waitsAloneRow.holds Try.pinned (OpenSpec.ofChange waitsAloneWrong)

/-- 'consignorlaw18.WaitsTries': WHATEVER THE INPUT: true; the input reads as it did. -/
def waitsTriesSpec : ChangeSpec := { name := "waitsTries", fn := fun _ => fun
  | [d1, d2] => { results := [.lit (.bool true)], args := [d1, d2] }
  | _ => none }
def waitsTriesRow : OpenClaim := { program := "ytiapahafaoaniaa", sum := "876636ae043003e9e54b35af951c783714eb50a7d498770bd9b305ca67e77857", func := "consignor/consignorlaw18.WaitsTries", spec := "waitsTries", unfollowed := true, recurses := true, plainKeys := false, apart := false }
def WaitsTriesSaid : Prop := waitsTriesRow.holds Try.pinned (OpenSpec.ofChange waitsTriesSpec)

/-- ITS FALSE NEIGHBOUR: 'it returns false'. Refute it at one input. -/
def waitsTriesWrong : ChangeSpec := { name := "waitsTries", fn := fun _ => fun
  | [d1, d2] => { results := [.lit (.bool false)], args := [d1, d2] }
  | _ => none }
def WaitsTriesWrongFalsely : Prop := waitsTriesRow.holds Try.pinned (OpenSpec.ofChange waitsTriesWrong)

/-- 'consignorlaw18.WaitsPlay': WHATEVER THE INPUT: true; the input reads as it did. -/
def waitsPlaySpec : ChangeSpec := { name := "waitsPlay", fn := fun _ => fun
  | [d] => { results := [.lit (.bool true)], args := [d] }
  | _ => none }
def waitsPlayRow : OpenClaim := { program := "ytiapahafaoaniaa", sum := "876636ae043003e9e54b35af951c783714eb50a7d498770bd9b305ca67e77857", func := "consignor/consignorlaw18.WaitsPlay", spec := "waitsPlay", unfollowed := true, recurses := true, plainKeys := false, apart := false }
def WaitsPlaySaid : Prop := waitsPlayRow.holds Try.pinned (OpenSpec.ofChange waitsPlaySpec)

/-- ITS FALSE NEIGHBOUR: 'it returns false'. Refute it at one input. -/
def waitsPlayWrong : ChangeSpec := { name := "waitsPlay", fn := fun _ => fun
  | [d] => { results := [.lit (.bool false)], args := [d] }
  | _ => none }
def WaitsPlayWrongFalsely : Prop := waitsPlayRow.holds Try.pinned (OpenSpec.ofChange waitsPlayWrong)

/-- 'consignorlaw18.WaitsNone': WHATEVER THE INPUT: true; the input reads as it did. -/
def waitsNoneSpec : ChangeSpec := { name := "waitsNone", fn := fun _ => fun
  | [d] => { results := [.lit (.bool true)], args := [d] }
  | _ => none }
def waitsNoneRow : OpenClaim := { program := "ytiapahafaoaniaa", sum := "876636ae043003e9e54b35af951c783714eb50a7d498770bd9b305ca67e77857", func := "consignor/consignorlaw18.WaitsNone", spec := "waitsNone", unfollowed := true, recurses := true, plainKeys := false, apart := false }
def WaitsNoneSaid : Prop := waitsNoneRow.holds Try.pinned (OpenSpec.ofChange waitsNoneSpec)

/-- ITS FALSE NEIGHBOUR: 'it returns false'. Refute it at one input. -/
def waitsNoneWrong : ChangeSpec := { name := "waitsNone", fn := fun _ => fun
  | [d] => { results := [.lit (.bool false)], args := [d] }
  | _ => none }
def WaitsNoneWrongFalsely : Prop := waitsNoneRow.holds Try.pinned (OpenSpec.ofChange waitsNoneWrong)

/- THE SECOND FORM. 'bulk': how many values and letters a reading holds, each counted each time it is reached (what is shared counts as often as it is met; a slice's spare places count too). A statement '..UptoSaid' is the law's where the arguments, and the package variables that the reading takes, are together of bulk at most 1048576: NARROWER than '..Said'. Prove '..Said' where nothing that the law and all that it calls make is longer than what came in: it says more and counts as full. Else prove '..UptoSaid'. A law counts once. -/
mutual
def uptoBulk {H : Type} : DataW H → Nat
  | .lit (.string bytes) => bytes.length + 1
  | .lit _ => 1
  | .nil => 1
  | .ptr d => uptoBulk d + 1
  | .slice elems spare => uptoBulkAll elems + uptoBulkAll spare + 1
  | .agg parts => uptoBulkAll parts + 1
  | .iface _ d => uptoBulk d + 1
  | .map entries => uptoBulkEntries entries + 1
  | .held _ => 1
def uptoBulkAll {H : Type} : List (DataW H) → Nat
  | [] => 0
  | d :: r => uptoBulk d + uptoBulkAll r
def uptoBulkEntries {H : Type} : List (Lit × DataW H) → Nat
  | [] => 0
  | x :: r => uptoBulkEntry x + uptoBulkEntries r
def uptoBulkEntry {H : Type} : Lit × DataW H → Nat
  | (.string bytes, d) => bytes.length + uptoBulk d + 1
  | (_, d) => uptoBulk d + 1
 end
def uptoSmall : (H : Type) → List (DataW H) → Bool := fun _ ds => decide (uptoBulkAll ds ≤ 1048576)
def OpenSpec.upto (s : _root_.Go.ChangeSpec) : _root_.Go.OpenSpec := { _root_.Go.OpenSpec.ofChange s with cond := some uptoSmall }

/-- 'consignorlaw18.WaitsGap', WHERE WHAT IT READS IS OF BULK AT MOST 1048576: true; the input reads as it did. -/
def waitsGapUptoRow : OpenClaim := { program := "ytiapahafaoaniaa", sum := "876636ae043003e9e54b35af951c783714eb50a7d498770bd9b305ca67e77857", func := "consignor/consignorlaw18.WaitsGap", spec := "waitsGap", unfollowed := true, recurses := true, plainKeys := false, apart := false, narrowed := true }
def WaitsGapUptoSaid : Prop := waitsGapUptoRow.holds Try.pinned (OpenSpec.upto waitsGapSpec)

/-- 'consignorlaw18.WaitsAlone', WHERE WHAT IT READS IS OF BULK AT MOST 1048576: true; the input reads as it did. -/
def waitsAloneUptoRow : OpenClaim := { program := "ytiapahafaoaniaa", sum := "876636ae043003e9e54b35af951c783714eb50a7d498770bd9b305ca67e77857", func := "consignor/consignorlaw18.WaitsAlone", spec := "waitsAlone", unfollowed := true, recurses := true, plainKeys := false, apart := false, narrowed := true }
def WaitsAloneUptoSaid : Prop := waitsAloneUptoRow.holds Try.pinned (OpenSpec.upto waitsAloneSpec)

/-- 'consignorlaw18.WaitsTries', WHERE WHAT IT READS IS OF BULK AT MOST 1048576: true; the input reads as it did. -/
def waitsTriesUptoRow : OpenClaim := { program := "ytiapahafaoaniaa", sum := "876636ae043003e9e54b35af951c783714eb50a7d498770bd9b305ca67e77857", func := "consignor/consignorlaw18.WaitsTries", spec := "waitsTries", unfollowed := true, recurses := true, plainKeys := false, apart := false, narrowed := true }
def WaitsTriesUptoSaid : Prop := waitsTriesUptoRow.holds Try.pinned (OpenSpec.upto waitsTriesSpec)

/-- 'consignorlaw18.WaitsPlay', WHERE WHAT IT READS IS OF BULK AT MOST 1048576: true; the input reads as it did. -/
def waitsPlayUptoRow : OpenClaim := { program := "ytiapahafaoaniaa", sum := "876636ae043003e9e54b35af951c783714eb50a7d498770bd9b305ca67e77857", func := "consignor/consignorlaw18.WaitsPlay", spec := "waitsPlay", unfollowed := true, recurses := true, plainKeys := false, apart := false, narrowed := true }
def WaitsPlayUptoSaid : Prop := waitsPlayUptoRow.holds Try.pinned (OpenSpec.upto waitsPlaySpec)

/-- 'consignorlaw18.WaitsNone', WHERE WHAT IT READS IS OF BULK AT MOST 1048576: true; the input reads as it did. -/
def waitsNoneUptoRow : OpenClaim := { program := "ytiapahafaoaniaa", sum := "876636ae043003e9e54b35af951c783714eb50a7d498770bd9b305ca67e77857", func := "consignor/consignorlaw18.WaitsNone", spec := "waitsNone", unfollowed := true, recurses := true, plainKeys := false, apart := false, narrowed := true }
def WaitsNoneUptoSaid : Prop := waitsNoneUptoRow.holds Try.pinned (OpenSpec.upto waitsNoneSpec)

end Rows
end Go.Proofs.Ytiapahafaoaniaa
