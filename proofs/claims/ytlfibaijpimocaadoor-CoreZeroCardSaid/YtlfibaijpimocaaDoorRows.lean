/-
  NARROWER THAN 'FOR EVERY INPUT', by the rows' own cells (each row's printed sentence says how): MatchFind: laid · MatchOnce: laid · MatchAgree: laid · CoreZero: laid · CoreParts: laid.
  DERIVED. THE GIVEN ROWS OF THIS SEAT. 5 by the template 'for every input the law returns true; each argument reads behind the call as it read before'; 0 by the template 'total and deterministic' (their statements: YtlfibaijpimocaaDoorTotals.lean).
  GIVEN WITH THE SEED: the statements are not yours to turn. If you find one false, say at which input.
  Laid BY PROGRAM, IN A SANDBOX (cutbox-rows.mjs): the forced cells as the released guide's own fill.sh prints them over the translation 6aa5b316b658e17d… (all of the seat's roots in one cut). By AI agents, Wed Nov 11 2026. No macro, syntax, notation, axiom, sorry.
-/
import Derived.Test.YtlfibaijpimocaaDoorChecked
import GoSem.Claim
import GoSem.ClaimJoined
import GoSem.ClaimMapViews
import Derived.JoinedTies
import Derived.KernelRfl
namespace Go.Proofs.YtlfibaijpimocaaDoor
/- THE CELL 'sum', in the pinned program and in every row, IS THE sha256 OF THE DUMP (.gsa) THAT YtlfibaijpimocaaDoorProg.lean LOADS. Nothing in Lean hashes anything: it is a label: what it is worth is what the hold of that sum in a sandbox is worth. -/
noncomputable def Tryd.pinned : Pinned := { name := "ytlfibaijpimocaadoor", sum := "6aa5b316b658e17dbc902d3e34a61f07235a50bf92f943290ada9a83c1965adf", checked := Tryd.checked }
namespace Rows
def none {H : Type} : Left H := { results := [], args := [] }

/- WHAT THE LISTED PACKAGE-LEVEL VARIABLES READ AS WHEN THE CALL BEGINS. Each datum BY PROGRAM (the guide's laid-datum.mjs) off the statement by which the dump's own 'gosem.cut.vars' lays the variable. In a bare row this is a premise. The card (YtlfibaijpimocaaDoorCards.lean) ties it to the program's text. -/
def laid_consignor_keys_parties {H : Type} : DataW H := .agg [.lit (.int .i64 1), .lit (.int .i64 0), .lit (.int .i64 2), .lit (.int .i64 1), .lit (.int .i64 0), .lit (.int .i64 2)]
def laid_math_bits_deBruijn32tab {H : Type} : DataW H := .agg [.lit (.int .u8 0), .lit (.int .u8 1), .lit (.int .u8 28), .lit (.int .u8 2), .lit (.int .u8 29), .lit (.int .u8 14), .lit (.int .u8 24), .lit (.int .u8 3), .lit (.int .u8 30), .lit (.int .u8 22), .lit (.int .u8 20), .lit (.int .u8 15), .lit (.int .u8 25), .lit (.int .u8 17), .lit (.int .u8 4), .lit (.int .u8 8), .lit (.int .u8 31), .lit (.int .u8 27), .lit (.int .u8 13), .lit (.int .u8 23), .lit (.int .u8 21), .lit (.int .u8 19), .lit (.int .u8 16), .lit (.int .u8 7), .lit (.int .u8 26), .lit (.int .u8 12), .lit (.int .u8 18), .lit (.int .u8 6), .lit (.int .u8 11), .lit (.int .u8 5), .lit (.int .u8 10), .lit (.int .u8 9)]
def laid_math_bits_deBruijn64tab {H : Type} : DataW H := .agg [.lit (.int .u8 0), .lit (.int .u8 1), .lit (.int .u8 56), .lit (.int .u8 2), .lit (.int .u8 57), .lit (.int .u8 49), .lit (.int .u8 28), .lit (.int .u8 3), .lit (.int .u8 61), .lit (.int .u8 58), .lit (.int .u8 42), .lit (.int .u8 50), .lit (.int .u8 38), .lit (.int .u8 29), .lit (.int .u8 17), .lit (.int .u8 4), .lit (.int .u8 62), .lit (.int .u8 47), .lit (.int .u8 59), .lit (.int .u8 36), .lit (.int .u8 45), .lit (.int .u8 43), .lit (.int .u8 51), .lit (.int .u8 22), .lit (.int .u8 53), .lit (.int .u8 39), .lit (.int .u8 33), .lit (.int .u8 30), .lit (.int .u8 24), .lit (.int .u8 18), .lit (.int .u8 12), .lit (.int .u8 5), .lit (.int .u8 63), .lit (.int .u8 55), .lit (.int .u8 48), .lit (.int .u8 27), .lit (.int .u8 60), .lit (.int .u8 41), .lit (.int .u8 37), .lit (.int .u8 16), .lit (.int .u8 46), .lit (.int .u8 35), .lit (.int .u8 44), .lit (.int .u8 21), .lit (.int .u8 52), .lit (.int .u8 32), .lit (.int .u8 23), .lit (.int .u8 11), .lit (.int .u8 54), .lit (.int .u8 26), .lit (.int .u8 40), .lit (.int .u8 15), .lit (.int .u8 34), .lit (.int .u8 20), .lit (.int .u8 31), .lit (.int .u8 10), .lit (.int .u8 25), .lit (.int .u8 14), .lit (.int .u8 19), .lit (.int .u8 9), .lit (.int .u8 13), .lit (.int .u8 8), .lit (.int .u8 7), .lit (.int .u8 6)]
def laid_internal_strconv_uint64pow10 {H : Type} : DataW H := .agg [.lit (.int .u64 1), .lit (.int .u64 10), .lit (.int .u64 100), .lit (.int .u64 1000), .lit (.int .u64 10000), .lit (.int .u64 100000), .lit (.int .u64 1000000), .lit (.int .u64 10000000), .lit (.int .u64 100000000), .lit (.int .u64 1000000000), .lit (.int .u64 10000000000), .lit (.int .u64 100000000000), .lit (.int .u64 1000000000000), .lit (.int .u64 10000000000000), .lit (.int .u64 100000000000000), .lit (.int .u64 1000000000000000), .lit (.int .u64 10000000000000000), .lit (.int .u64 100000000000000000), .lit (.int .u64 1000000000000000000), .lit (.int .u64 10000000000000000000)]
def laid_consignor_keys_deeds {H : Type} : DataW H := .map [(.string [99, 104, 97, 114, 103, 101], .lit (.int .i64 1)), (.string [114, 101, 102, 117, 110, 100], .lit (.int .i64 4)), (.string [114, 101, 108, 101, 97, 115, 101], .lit (.int .i64 3)), (.string [114, 101, 115, 101, 114, 118, 101], .lit (.int .i64 0)), (.string [115, 104, 105, 112], .lit (.int .i64 2)), (.string [118, 111, 105, 100], .lit (.int .i64 5))]

/-- 'consignorlaw22.MatchFind': WHATEVER THE INPUT: true; the input reads as it did. -/
def matchFindSpec : ChangeSpec := { name := "matchFind", fn := fun _ => fun
  | [d1, d2, d3] => { results := [.lit (.bool true)], args := [d1, d2, d3] }
  | _ => none }
def matchFindRow : OpenClaim := { program := "ytlfibaijpimocaadoor", sum := "6aa5b316b658e17dbc902d3e34a61f07235a50bf92f943290ada9a83c1965adf", func := "consignor/consignorlaw22.MatchFind", spec := "matchFind", unfollowed := true, recurses := true, named := ["consignor/keys.parties"], plainKeys := false, apart := false, laid := [("consignor/keys.parties", laid_consignor_keys_parties)] }
def MatchFindSaid : Prop := matchFindRow.holds Tryd.pinned (OpenSpec.ofChange matchFindSpec)

/-- ITS FALSE NEIGHBOUR: 'it returns false'. Refute it at one input. -/
def matchFindWrong : ChangeSpec := { name := "matchFind", fn := fun _ => fun
  | [d1, d2, d3] => { results := [.lit (.bool false)], args := [d1, d2, d3] }
  | _ => none }
def MatchFindWrongFalsely : Prop := matchFindRow.holds Tryd.pinned (OpenSpec.ofChange matchFindWrong)

/-- 'consignorlaw22.MatchOnce': WHATEVER THE INPUT: true; the input reads as it did. -/
def matchOnceSpec : ChangeSpec := { name := "matchOnce", fn := fun _ => fun
  | [d1, d2] => { results := [.lit (.bool true)], args := [d1, d2] }
  | _ => none }
def matchOnceRow : OpenClaim := { program := "ytlfibaijpimocaadoor", sum := "6aa5b316b658e17dbc902d3e34a61f07235a50bf92f943290ada9a83c1965adf", func := "consignor/consignorlaw22.MatchOnce", spec := "matchOnce", unfollowed := true, recurses := true, named := ["consignor/keys.parties"], plainKeys := false, apart := false, laid := [("consignor/keys.parties", laid_consignor_keys_parties)] }
def MatchOnceSaid : Prop := matchOnceRow.holds Tryd.pinned (OpenSpec.ofChange matchOnceSpec)

/-- ITS FALSE NEIGHBOUR: 'it returns false'. Refute it at one input. -/
def matchOnceWrong : ChangeSpec := { name := "matchOnce", fn := fun _ => fun
  | [d1, d2] => { results := [.lit (.bool false)], args := [d1, d2] }
  | _ => none }
def MatchOnceWrongFalsely : Prop := matchOnceRow.holds Tryd.pinned (OpenSpec.ofChange matchOnceWrong)

/-- 'consignorlaw22.MatchAgree': WHATEVER THE INPUT: true; the input reads as it did. -/
def matchAgreeSpec : ChangeSpec := { name := "matchAgree", fn := fun _ => fun
  | [d1, d2, d3] => { results := [.lit (.bool true)], args := [d1, d2, d3] }
  | _ => none }
def matchAgreeRow : OpenClaim := { program := "ytlfibaijpimocaadoor", sum := "6aa5b316b658e17dbc902d3e34a61f07235a50bf92f943290ada9a83c1965adf", func := "consignor/consignorlaw22.MatchAgree", spec := "matchAgree", unfollowed := true, recurses := true, named := ["consignor/keys.parties"], plainKeys := false, apart := false, laid := [("consignor/keys.parties", laid_consignor_keys_parties)] }
def MatchAgreeSaid : Prop := matchAgreeRow.holds Tryd.pinned (OpenSpec.ofChange matchAgreeSpec)

/-- ITS FALSE NEIGHBOUR: 'it returns false'. Refute it at one input. -/
def matchAgreeWrong : ChangeSpec := { name := "matchAgree", fn := fun _ => fun
  | [d1, d2, d3] => { results := [.lit (.bool false)], args := [d1, d2, d3] }
  | _ => none }
def MatchAgreeWrongFalsely : Prop := matchAgreeRow.holds Tryd.pinned (OpenSpec.ofChange matchAgreeWrong)

/-- 'consignorlaw24.CoreZero': WHATEVER THE INPUT: true; the input reads as it did. -/
def coreZeroSpec : ChangeSpec := { name := "coreZero", fn := fun _ => fun
  | [d] => { results := [.lit (.bool true)], args := [d] }
  | _ => none }
def coreZeroRow : OpenClaim := { program := "ytlfibaijpimocaadoor", sum := "6aa5b316b658e17dbc902d3e34a61f07235a50bf92f943290ada9a83c1965adf", func := "consignor/consignorlaw24.CoreZero", spec := "coreZero", named := ["internal/strconv.uint64pow10", "math/bits.deBruijn32tab", "math/bits.deBruijn64tab", "consignor/keys.deeds", "consignor/keys.parties"], plainKeys := false, apart := false, laid := [("math/bits.deBruijn32tab", laid_math_bits_deBruijn32tab), ("math/bits.deBruijn64tab", laid_math_bits_deBruijn64tab), ("internal/strconv.uint64pow10", laid_internal_strconv_uint64pow10), ("consignor/keys.parties", laid_consignor_keys_parties), ("consignor/keys.deeds", laid_consignor_keys_deeds)] }
def CoreZeroSaid : Prop := coreZeroRow.holds Tryd.pinned (OpenSpec.ofChange coreZeroSpec)

/-- ITS FALSE NEIGHBOUR: 'it returns false'. Refute it at one input. -/
def coreZeroWrong : ChangeSpec := { name := "coreZero", fn := fun _ => fun
  | [d] => { results := [.lit (.bool false)], args := [d] }
  | _ => none }
def CoreZeroWrongFalsely : Prop := coreZeroRow.holds Tryd.pinned (OpenSpec.ofChange coreZeroWrong)

/-- 'consignorlaw24.CoreParts': WHATEVER THE INPUT: true; the input reads as it did. -/
def corePartsSpec : ChangeSpec := { name := "coreParts", fn := fun _ => fun
  | [d1, d2, d3] => { results := [.lit (.bool true)], args := [d1, d2, d3] }
  | _ => none }
def corePartsRow : OpenClaim := { program := "ytlfibaijpimocaadoor", sum := "6aa5b316b658e17dbc902d3e34a61f07235a50bf92f943290ada9a83c1965adf", func := "consignor/consignorlaw24.CoreParts", spec := "coreParts", unfollowed := true, recurses := true, named := ["internal/strconv.uint64pow10", "math/bits.deBruijn32tab", "math/bits.deBruijn64tab", "consignor/keys.deeds", "consignor/keys.parties"], plainKeys := false, apart := false, laid := [("math/bits.deBruijn32tab", laid_math_bits_deBruijn32tab), ("math/bits.deBruijn64tab", laid_math_bits_deBruijn64tab), ("internal/strconv.uint64pow10", laid_internal_strconv_uint64pow10), ("consignor/keys.parties", laid_consignor_keys_parties), ("consignor/keys.deeds", laid_consignor_keys_deeds)] }
def CorePartsSaid : Prop := corePartsRow.holds Tryd.pinned (OpenSpec.ofChange corePartsSpec)

/-- ITS FALSE NEIGHBOUR: 'it returns false'. Refute it at one input. -/
def corePartsWrong : ChangeSpec := { name := "coreParts", fn := fun _ => fun
  | [d1, d2, d3] => { results := [.lit (.bool false)], args := [d1, d2, d3] }
  | _ => none }
def CorePartsWrongFalsely : Prop := corePartsRow.holds Tryd.pinned (OpenSpec.ofChange corePartsWrong)

/- THE SECOND FORM. 'bulk': how many values and letters a reading holds, each counted each time it is reached (what is shared counts as often as it is met; a slice's spare places count too). A statement '..UptoSaid' is the law's where the arguments, and the package variables that the reading takes, are together of bulk at most 1048576: NARROWER than '..Said'. Prove '..Said' where nothing that the law and all that it calls make is longer than what came in: it says more and counts as full. Else prove '..UptoSaid'. A law counts once. -/
mutual
def uptoBulk {H : Type} : DataW H → Nat
  | .lit (.string bytes) => bytes.length + 1
  | .lit _ => 1
  | .nil => 1
  | .ptr d => uptoBulk d + 1
  | .slice elems spare => uptoBulkAll elems + uptoBulkAll spare + 1
  | .agg parts => uptoBulkAll parts + 1
  | .iface _ d => uptoBulk d + 1
  | .map entries => uptoBulkEntries entries + 1
  | .held _ => 1
def uptoBulkAll {H : Type} : List (DataW H) → Nat
  | [] => 0
  | d :: r => uptoBulk d + uptoBulkAll r
def uptoBulkEntries {H : Type} : List (Lit × DataW H) → Nat
  | [] => 0
  | x :: r => uptoBulkEntry x + uptoBulkEntries r
def uptoBulkEntry {H : Type} : Lit × DataW H → Nat
  | (.string bytes, d) => bytes.length + uptoBulk d + 1
  | (_, d) => uptoBulk d + 1
 end
def uptoSmall : (H : Type) → List (DataW H) → Bool := fun _ ds => decide (uptoBulkAll ds ≤ 1048576)
def OpenSpec.upto (s : _root_.Go.ChangeSpec) : _root_.Go.OpenSpec := { _root_.Go.OpenSpec.ofChange s with cond := some uptoSmall }

/-- 'consignorlaw22.MatchFind', WHERE WHAT IT READS IS OF BULK AT MOST 1048576: true; the input reads as it did. -/
def matchFindUptoRow : OpenClaim := { program := "ytlfibaijpimocaadoor", sum := "6aa5b316b658e17dbc902d3e34a61f07235a50bf92f943290ada9a83c1965adf", func := "consignor/consignorlaw22.MatchFind", spec := "matchFind", unfollowed := true, recurses := true, named := ["consignor/keys.parties"], plainKeys := false, apart := false, laid := [("consignor/keys.parties", laid_consignor_keys_parties)], narrowed := true }
def MatchFindUptoSaid : Prop := matchFindUptoRow.holds Tryd.pinned (OpenSpec.upto matchFindSpec)

/-- 'consignorlaw22.MatchOnce', WHERE WHAT IT READS IS OF BULK AT MOST 1048576: true; the input reads as it did. -/
def matchOnceUptoRow : OpenClaim := { program := "ytlfibaijpimocaadoor", sum := "6aa5b316b658e17dbc902d3e34a61f07235a50bf92f943290ada9a83c1965adf", func := "consignor/consignorlaw22.MatchOnce", spec := "matchOnce", unfollowed := true, recurses := true, named := ["consignor/keys.parties"], plainKeys := false, apart := false, laid := [("consignor/keys.parties", laid_consignor_keys_parties)], narrowed := true }
def MatchOnceUptoSaid : Prop := matchOnceUptoRow.holds Tryd.pinned (OpenSpec.upto matchOnceSpec)

/-- 'consignorlaw22.MatchAgree', WHERE WHAT IT READS IS OF BULK AT MOST 1048576: true; the input reads as it did. -/
def matchAgreeUptoRow : OpenClaim := { program := "ytlfibaijpimocaadoor", sum := "6aa5b316b658e17dbc902d3e34a61f07235a50bf92f943290ada9a83c1965adf", func := "consignor/consignorlaw22.MatchAgree", spec := "matchAgree", unfollowed := true, recurses := true, named := ["consignor/keys.parties"], plainKeys := false, apart := false, laid := [("consignor/keys.parties", laid_consignor_keys_parties)], narrowed := true }
def MatchAgreeUptoSaid : Prop := matchAgreeUptoRow.holds Tryd.pinned (OpenSpec.upto matchAgreeSpec)

/-- 'consignorlaw24.CoreZero', WHERE WHAT IT READS IS OF BULK AT MOST 1048576: true; the input reads as it did. -/
def coreZeroUptoRow : OpenClaim := { program := "ytlfibaijpimocaadoor", sum := "6aa5b316b658e17dbc902d3e34a61f07235a50bf92f943290ada9a83c1965adf", func := "consignor/consignorlaw24.CoreZero", spec := "coreZero", named := ["internal/strconv.uint64pow10", "math/bits.deBruijn32tab", "math/bits.deBruijn64tab", "consignor/keys.deeds", "consignor/keys.parties"], plainKeys := false, apart := false, laid := [("math/bits.deBruijn32tab", laid_math_bits_deBruijn32tab), ("math/bits.deBruijn64tab", laid_math_bits_deBruijn64tab), ("internal/strconv.uint64pow10", laid_internal_strconv_uint64pow10), ("consignor/keys.parties", laid_consignor_keys_parties), ("consignor/keys.deeds", laid_consignor_keys_deeds)], narrowed := true }
def CoreZeroUptoSaid : Prop := coreZeroUptoRow.holds Tryd.pinned (OpenSpec.upto coreZeroSpec)

/-- 'consignorlaw24.CoreParts', WHERE WHAT IT READS IS OF BULK AT MOST 1048576: true; the input reads as it did. -/
def corePartsUptoRow : OpenClaim := { program := "ytlfibaijpimocaadoor", sum := "6aa5b316b658e17dbc902d3e34a61f07235a50bf92f943290ada9a83c1965adf", func := "consignor/consignorlaw24.CoreParts", spec := "coreParts", unfollowed := true, recurses := true, named := ["internal/strconv.uint64pow10", "math/bits.deBruijn32tab", "math/bits.deBruijn64tab", "consignor/keys.deeds", "consignor/keys.parties"], plainKeys := false, apart := false, laid := [("math/bits.deBruijn32tab", laid_math_bits_deBruijn32tab), ("math/bits.deBruijn64tab", laid_math_bits_deBruijn64tab), ("internal/strconv.uint64pow10", laid_internal_strconv_uint64pow10), ("consignor/keys.parties", laid_consignor_keys_parties), ("consignor/keys.deeds", laid_consignor_keys_deeds)], narrowed := true }
def CorePartsUptoSaid : Prop := corePartsUptoRow.holds Tryd.pinned (OpenSpec.upto corePartsSpec)

end Rows
end Go.Proofs.YtlfibaijpimocaaDoor
