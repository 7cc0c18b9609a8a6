/-
  NARROWER THAN 'FOR EVERY INPUT', by the rows' own cells (each row's printed sentence says how): StockPrint: laid · StockParse: laid · StockCells: laid · ManifestPrint: laid · ManifestParse: laid · ManifestCells: laid · ManifestBack: laid · ManifestForm: laid.
  DERIVED. THE GIVEN ROWS OF THIS SEAT. 8 by the template 'for every input the law returns true; each argument reads behind the call as it read before'; 0 by the template 'total and deterministic' (their statements: YtgpjbigelblanaaGreatDoorTotals.lean).
  GIVEN WITH THE SEED: the statements are not yours to turn. If you find one false, say at which input.
  Laid BY PROGRAM, IN A SANDBOX (cutbox-rows.mjs): the forced cells as the released guide's own fill.sh prints them over the translation 1055ae9b5f8e7d5d… (all of the seat's roots in one cut). By AI agents, Wed Nov 11 2026. No macro, syntax, notation, axiom, sorry.
-/
import Derived.Test.YtgpjbigelblanaaGreatDoorChecked
import GoSem.PinnedTables
import GoSem.Claim
import GoSem.ClaimJoined
import GoSem.ClaimMapViews
import Derived.JoinedTies
import Derived.KernelRfl
namespace Go.Proofs.YtgpjbigelblanaaGreatDoor
/- THE CELL 'sum', in the pinned program and in every row, IS THE sha256 OF THE DUMP (.gsa) THAT YtgpjbigelblanaaGreatDoorProg.lean LOADS. Nothing in Lean hashes anything: it is a label: what it is worth is what the hold of that sum in a sandbox is worth. -/
noncomputable def Tryz.pinned : Pinned := { name := "ytgpjbigelblanaagreatdoor", sum := "1055ae9b5f8e7d5d535d05e3e1bd0635fd1759e429c4ca6b6b81de592bf308f1", checked := Tryz.checked }
namespace Rows
def none {H : Type} : Left H := { results := [], args := [] }

/- WHAT THE LISTED PACKAGE-LEVEL VARIABLES READ AS WHEN THE CALL BEGINS. Each datum BY PROGRAM (the guide's laid-datum.mjs) off the statement by which the dump's own 'gosem.cut.vars' lays the variable. In a bare row this is a premise. The card (YtgpjbigelblanaaGreatDoorCards.lean) ties it to the program's text. -/
def laid_math_bits_deBruijn32tab {H : Type} : DataW H := .agg [.lit (.int .u8 0), .lit (.int .u8 1), .lit (.int .u8 28), .lit (.int .u8 2), .lit (.int .u8 29), .lit (.int .u8 14), .lit (.int .u8 24), .lit (.int .u8 3), .lit (.int .u8 30), .lit (.int .u8 22), .lit (.int .u8 20), .lit (.int .u8 15), .lit (.int .u8 25), .lit (.int .u8 17), .lit (.int .u8 4), .lit (.int .u8 8), .lit (.int .u8 31), .lit (.int .u8 27), .lit (.int .u8 13), .lit (.int .u8 23), .lit (.int .u8 21), .lit (.int .u8 19), .lit (.int .u8 16), .lit (.int .u8 7), .lit (.int .u8 26), .lit (.int .u8 12), .lit (.int .u8 18), .lit (.int .u8 6), .lit (.int .u8 11), .lit (.int .u8 5), .lit (.int .u8 10), .lit (.int .u8 9)]
def laid_math_bits_deBruijn64tab {H : Type} : DataW H := .agg [.lit (.int .u8 0), .lit (.int .u8 1), .lit (.int .u8 56), .lit (.int .u8 2), .lit (.int .u8 57), .lit (.int .u8 49), .lit (.int .u8 28), .lit (.int .u8 3), .lit (.int .u8 61), .lit (.int .u8 58), .lit (.int .u8 42), .lit (.int .u8 50), .lit (.int .u8 38), .lit (.int .u8 29), .lit (.int .u8 17), .lit (.int .u8 4), .lit (.int .u8 62), .lit (.int .u8 47), .lit (.int .u8 59), .lit (.int .u8 36), .lit (.int .u8 45), .lit (.int .u8 43), .lit (.int .u8 51), .lit (.int .u8 22), .lit (.int .u8 53), .lit (.int .u8 39), .lit (.int .u8 33), .lit (.int .u8 30), .lit (.int .u8 24), .lit (.int .u8 18), .lit (.int .u8 12), .lit (.int .u8 5), .lit (.int .u8 63), .lit (.int .u8 55), .lit (.int .u8 48), .lit (.int .u8 27), .lit (.int .u8 60), .lit (.int .u8 41), .lit (.int .u8 37), .lit (.int .u8 16), .lit (.int .u8 46), .lit (.int .u8 35), .lit (.int .u8 44), .lit (.int .u8 21), .lit (.int .u8 52), .lit (.int .u8 32), .lit (.int .u8 23), .lit (.int .u8 11), .lit (.int .u8 54), .lit (.int .u8 26), .lit (.int .u8 40), .lit (.int .u8 15), .lit (.int .u8 34), .lit (.int .u8 20), .lit (.int .u8 31), .lit (.int .u8 10), .lit (.int .u8 25), .lit (.int .u8 14), .lit (.int .u8 19), .lit (.int .u8 9), .lit (.int .u8 13), .lit (.int .u8 8), .lit (.int .u8 7), .lit (.int .u8 6)]
def laid_internal_strconv_uint64pow10 {H : Type} : DataW H := .agg [.lit (.int .u64 1), .lit (.int .u64 10), .lit (.int .u64 100), .lit (.int .u64 1000), .lit (.int .u64 10000), .lit (.int .u64 100000), .lit (.int .u64 1000000), .lit (.int .u64 10000000), .lit (.int .u64 100000000), .lit (.int .u64 1000000000), .lit (.int .u64 10000000000), .lit (.int .u64 100000000000), .lit (.int .u64 1000000000000), .lit (.int .u64 10000000000000), .lit (.int .u64 100000000000000), .lit (.int .u64 1000000000000000), .lit (.int .u64 10000000000000000), .lit (.int .u64 100000000000000000), .lit (.int .u64 1000000000000000000), .lit (.int .u64 10000000000000000000)]
def laid_unicode_utf8_acceptRanges {H : Type} : DataW H := .agg [.agg [.lit (.int .u8 128), .lit (.int .u8 191)], .agg [.lit (.int .u8 160), .lit (.int .u8 191)], .agg [.lit (.int .u8 128), .lit (.int .u8 159)], .agg [.lit (.int .u8 144), .lit (.int .u8 191)], .agg [.lit (.int .u8 128), .lit (.int .u8 143)], .agg [.lit (.int .u8 0), .lit (.int .u8 0)], .agg [.lit (.int .u8 0), .lit (.int .u8 0)], .agg [.lit (.int .u8 0), .lit (.int .u8 0)], .agg [.lit (.int .u8 0), .lit (.int .u8 0)], .agg [.lit (.int .u8 0), .lit (.int .u8 0)], .agg [.lit (.int .u8 0), .lit (.int .u8 0)], .agg [.lit (.int .u8 0), .lit (.int .u8 0)], .agg [.lit (.int .u8 0), .lit (.int .u8 0)], .agg [.lit (.int .u8 0), .lit (.int .u8 0)], .agg [.lit (.int .u8 0), .lit (.int .u8 0)], .agg [.lit (.int .u8 0), .lit (.int .u8 0)]]
def laid_strconv_ErrRange {H : Type} : DataW H := .iface "*errors.errorString" (.ptr (.agg [.lit (.string [118, 97, 108, 117, 101, 32, 111, 117, 116, 32, 111, 102, 32, 114, 97, 110, 103, 101])]))
def laid_strconv_ErrSyntax {H : Type} : DataW H := .iface "*errors.errorString" (.ptr (.agg [.lit (.string [105, 110, 118, 97, 108, 105, 100, 32, 115, 121, 110, 116, 97, 120])]))
def laid_consignor_keys_parties {H : Type} : DataW H := .agg [.lit (.int .i64 1), .lit (.int .i64 0), .lit (.int .i64 2), .lit (.int .i64 1), .lit (.int .i64 0), .lit (.int .i64 2)]
def laid_consignor_keys_deeds {H : Type} : DataW H := .map [(.string [99, 104, 97, 114, 103, 101], .lit (.int .i64 1)), (.string [114, 101, 102, 117, 110, 100], .lit (.int .i64 4)), (.string [114, 101, 108, 101, 97, 115, 101], .lit (.int .i64 3)), (.string [114, 101, 115, 101, 114, 118, 101], .lit (.int .i64 0)), (.string [115, 104, 105, 112], .lit (.int .i64 2)), (.string [118, 111, 105, 100], .lit (.int .i64 5))]
def laid_consignor_stock_words {H : Type} : DataW H := .map [(.string [100, 111, 110, 101], .lit (.int .i64 1)), (.string [114, 101, 102, 117, 115, 101, 100], .lit (.int .i64 2))]
/-- One of Go's own tables, pinned by name: the form's constant. -/
def laid_unicode_utf8_first : DataW Unit := Go.Pinned.utf8First

/-- 'consignorlaw14.StockPrint': WHATEVER THE INPUT: true; the input reads as it did. -/
def stockPrintSpec : ChangeSpec := { name := "stockPrint", fn := fun _ => fun
  | [d] => { results := [.lit (.bool true)], args := [d] }
  | _ => none }
def stockPrintRow : OpenClaim := { program := "ytgpjbigelblanaagreatdoor", sum := "1055ae9b5f8e7d5d535d05e3e1bd0635fd1759e429c4ca6b6b81de592bf308f1", func := "consignor/consignorlaw14.StockPrint", spec := "stockPrint", inPlace := ["internal/abi.NoEscape", "internal/bytealg.IndexByteString", "internal/bytealg.IndexString", "internal/bytealg.CountString", "internal/bytealg.MakeNoZero"], unfollowed := true, recurses := true, named := ["consignor/keys.parties", "internal/strconv.uint64pow10", "math/bits.deBruijn32tab", "math/bits.deBruijn64tab", "consignor/keys.deeds", "consignor/stock.words", "internal/bytealg.MaxLen", "unicode/utf8.first", "unicode/utf8.acceptRanges", "strconv.ErrSyntax", "strconv.ErrRange"], plainKeys := false, apart := false, laid := [("math/bits.deBruijn32tab", laid_math_bits_deBruijn32tab), ("math/bits.deBruijn64tab", laid_math_bits_deBruijn64tab), ("internal/strconv.uint64pow10", laid_internal_strconv_uint64pow10), ("unicode/utf8.acceptRanges", laid_unicode_utf8_acceptRanges), ("strconv.ErrRange", laid_strconv_ErrRange), ("strconv.ErrSyntax", laid_strconv_ErrSyntax), ("consignor/keys.parties", laid_consignor_keys_parties), ("consignor/keys.deeds", laid_consignor_keys_deeds), ("consignor/stock.words", laid_consignor_stock_words), ("unicode/utf8.first", laid_unicode_utf8_first)] }
def StockPrintSaid : Prop := stockPrintRow.holds Tryz.pinned (OpenSpec.ofChange stockPrintSpec)

/-- ITS FALSE NEIGHBOUR: 'it returns false'. Refute it at one input. -/
def stockPrintWrong : ChangeSpec := { name := "stockPrint", fn := fun _ => fun
  | [d] => { results := [.lit (.bool false)], args := [d] }
  | _ => none }
def StockPrintWrongFalsely : Prop := stockPrintRow.holds Tryz.pinned (OpenSpec.ofChange stockPrintWrong)

/-- 'consignorlaw14.StockParse': WHATEVER THE INPUT: true; the input reads as it did. -/
def stockParseSpec : ChangeSpec := { name := "stockParse", fn := fun _ => fun
  | [d] => { results := [.lit (.bool true)], args := [d] }
  | _ => none }
def stockParseRow : OpenClaim := { program := "ytgpjbigelblanaagreatdoor", sum := "1055ae9b5f8e7d5d535d05e3e1bd0635fd1759e429c4ca6b6b81de592bf308f1", func := "consignor/consignorlaw14.StockParse", spec := "stockParse", inPlace := ["internal/abi.NoEscape", "internal/bytealg.IndexByteString", "internal/bytealg.IndexString", "internal/bytealg.CountString", "internal/bytealg.MakeNoZero"], unfollowed := true, recurses := true, named := ["consignor/keys.parties", "internal/strconv.uint64pow10", "math/bits.deBruijn32tab", "math/bits.deBruijn64tab", "consignor/keys.deeds", "consignor/stock.words", "internal/bytealg.MaxLen", "unicode/utf8.first", "unicode/utf8.acceptRanges", "strconv.ErrSyntax", "strconv.ErrRange"], plainKeys := false, apart := false, laid := [("math/bits.deBruijn32tab", laid_math_bits_deBruijn32tab), ("math/bits.deBruijn64tab", laid_math_bits_deBruijn64tab), ("internal/strconv.uint64pow10", laid_internal_strconv_uint64pow10), ("unicode/utf8.acceptRanges", laid_unicode_utf8_acceptRanges), ("strconv.ErrRange", laid_strconv_ErrRange), ("strconv.ErrSyntax", laid_strconv_ErrSyntax), ("consignor/keys.parties", laid_consignor_keys_parties), ("consignor/keys.deeds", laid_consignor_keys_deeds), ("consignor/stock.words", laid_consignor_stock_words), ("unicode/utf8.first", laid_unicode_utf8_first)] }
def StockParseSaid : Prop := stockParseRow.holds Tryz.pinned (OpenSpec.ofChange stockParseSpec)

/-- ITS FALSE NEIGHBOUR: 'it returns false'. Refute it at one input. -/
def stockParseWrong : ChangeSpec := { name := "stockParse", fn := fun _ => fun
  | [d] => { results := [.lit (.bool false)], args := [d] }
  | _ => none }
def StockParseWrongFalsely : Prop := stockParseRow.holds Tryz.pinned (OpenSpec.ofChange stockParseWrong)

/-- 'consignorlaw14.StockCells': WHATEVER THE INPUT: true; the input reads as it did. -/
def stockCellsSpec : ChangeSpec := { name := "stockCells", fn := fun _ => fun
  | [d1, d2, d3] => { results := [.lit (.bool true)], args := [d1, d2, d3] }
  | _ => none }
def stockCellsRow : OpenClaim := { program := "ytgpjbigelblanaagreatdoor", sum := "1055ae9b5f8e7d5d535d05e3e1bd0635fd1759e429c4ca6b6b81de592bf308f1", func := "consignor/consignorlaw14.StockCells", spec := "stockCells", inPlace := ["internal/abi.NoEscape", "internal/bytealg.IndexByteString", "internal/bytealg.IndexString", "internal/bytealg.CountString", "internal/bytealg.MakeNoZero"], unfollowed := true, recurses := true, named := ["consignor/keys.parties", "internal/strconv.uint64pow10", "math/bits.deBruijn32tab", "math/bits.deBruijn64tab", "consignor/keys.deeds", "consignor/stock.words", "internal/bytealg.MaxLen", "unicode/utf8.first", "unicode/utf8.acceptRanges", "strconv.ErrSyntax", "strconv.ErrRange"], plainKeys := false, apart := false, laid := [("math/bits.deBruijn32tab", laid_math_bits_deBruijn32tab), ("math/bits.deBruijn64tab", laid_math_bits_deBruijn64tab), ("internal/strconv.uint64pow10", laid_internal_strconv_uint64pow10), ("unicode/utf8.acceptRanges", laid_unicode_utf8_acceptRanges), ("strconv.ErrRange", laid_strconv_ErrRange), ("strconv.ErrSyntax", laid_strconv_ErrSyntax), ("consignor/keys.parties", laid_consignor_keys_parties), ("consignor/keys.deeds", laid_consignor_keys_deeds), ("consignor/stock.words", laid_consignor_stock_words), ("unicode/utf8.first", laid_unicode_utf8_first)] }
def StockCellsSaid : Prop := stockCellsRow.holds Tryz.pinned (OpenSpec.ofChange stockCellsSpec)

/-- ITS FALSE NEIGHBOUR: 'it returns false'. Refute it at one input. -/
def stockCellsWrong : ChangeSpec := { name := "stockCells", fn := fun _ => fun
  | [d1, d2, d3] => { results := [.lit (.bool false)], args := [d1, d2, d3] }
  | _ => none }
def StockCellsWrongFalsely : Prop := stockCellsRow.holds Tryz.pinned (OpenSpec.ofChange stockCellsWrong)

/-- 'consignorlaw15.ManifestPrint': WHATEVER THE INPUT: true; the input reads as it did. -/
def manifestPrintSpec : ChangeSpec := { name := "manifestPrint", fn := fun _ => fun
  | [d] => { results := [.lit (.bool true)], args := [d] }
  | _ => none }
def manifestPrintRow : OpenClaim := { program := "ytgpjbigelblanaagreatdoor", sum := "1055ae9b5f8e7d5d535d05e3e1bd0635fd1759e429c4ca6b6b81de592bf308f1", func := "consignor/consignorlaw15.ManifestPrint", spec := "manifestPrint", inPlace := ["internal/abi.NoEscape", "internal/bytealg.IndexByteString", "internal/bytealg.IndexString", "internal/bytealg.CountString", "internal/bytealg.MakeNoZero"], unfollowed := true, recurses := true, named := ["consignor/keys.parties", "internal/strconv.uint64pow10", "math/bits.deBruijn32tab", "math/bits.deBruijn64tab", "internal/bytealg.MaxLen", "unicode/utf8.first", "unicode/utf8.acceptRanges", "strconv.ErrSyntax", "strconv.ErrRange"], plainKeys := false, apart := false, laid := [("math/bits.deBruijn32tab", laid_math_bits_deBruijn32tab), ("math/bits.deBruijn64tab", laid_math_bits_deBruijn64tab), ("internal/strconv.uint64pow10", laid_internal_strconv_uint64pow10), ("unicode/utf8.acceptRanges", laid_unicode_utf8_acceptRanges), ("strconv.ErrRange", laid_strconv_ErrRange), ("strconv.ErrSyntax", laid_strconv_ErrSyntax), ("consignor/keys.parties", laid_consignor_keys_parties), ("unicode/utf8.first", laid_unicode_utf8_first)] }
def ManifestPrintSaid : Prop := manifestPrintRow.holds Tryz.pinned (OpenSpec.ofChange manifestPrintSpec)

/-- ITS FALSE NEIGHBOUR: 'it returns false'. Refute it at one input. -/
def manifestPrintWrong : ChangeSpec := { name := "manifestPrint", fn := fun _ => fun
  | [d] => { results := [.lit (.bool false)], args := [d] }
  | _ => none }
def ManifestPrintWrongFalsely : Prop := manifestPrintRow.holds Tryz.pinned (OpenSpec.ofChange manifestPrintWrong)

/-- 'consignorlaw15.ManifestParse': WHATEVER THE INPUT: true; the input reads as it did. -/
def manifestParseSpec : ChangeSpec := { name := "manifestParse", fn := fun _ => fun
  | [d] => { results := [.lit (.bool true)], args := [d] }
  | _ => none }
def manifestParseRow : OpenClaim := { program := "ytgpjbigelblanaagreatdoor", sum := "1055ae9b5f8e7d5d535d05e3e1bd0635fd1759e429c4ca6b6b81de592bf308f1", func := "consignor/consignorlaw15.ManifestParse", spec := "manifestParse", inPlace := ["internal/abi.NoEscape", "internal/bytealg.IndexByteString", "internal/bytealg.IndexString", "internal/bytealg.CountString", "internal/bytealg.MakeNoZero"], unfollowed := true, recurses := true, named := ["consignor/keys.parties", "internal/strconv.uint64pow10", "math/bits.deBruijn32tab", "math/bits.deBruijn64tab", "internal/bytealg.MaxLen", "unicode/utf8.first", "unicode/utf8.acceptRanges", "strconv.ErrSyntax", "strconv.ErrRange"], plainKeys := false, apart := false, laid := [("math/bits.deBruijn32tab", laid_math_bits_deBruijn32tab), ("math/bits.deBruijn64tab", laid_math_bits_deBruijn64tab), ("internal/strconv.uint64pow10", laid_internal_strconv_uint64pow10), ("unicode/utf8.acceptRanges", laid_unicode_utf8_acceptRanges), ("strconv.ErrRange", laid_strconv_ErrRange), ("strconv.ErrSyntax", laid_strconv_ErrSyntax), ("consignor/keys.parties", laid_consignor_keys_parties), ("unicode/utf8.first", laid_unicode_utf8_first)] }
def ManifestParseSaid : Prop := manifestParseRow.holds Tryz.pinned (OpenSpec.ofChange manifestParseSpec)

/-- ITS FALSE NEIGHBOUR: 'it returns false'. Refute it at one input. -/
def manifestParseWrong : ChangeSpec := { name := "manifestParse", fn := fun _ => fun
  | [d] => { results := [.lit (.bool false)], args := [d] }
  | _ => none }
def ManifestParseWrongFalsely : Prop := manifestParseRow.holds Tryz.pinned (OpenSpec.ofChange manifestParseWrong)

/-- 'consignorlaw15.ManifestCells': WHATEVER THE INPUT: true; the input reads as it did. -/
def manifestCellsSpec : ChangeSpec := { name := "manifestCells", fn := fun _ => fun
  | [d1, d2, d3] => { results := [.lit (.bool true)], args := [d1, d2, d3] }
  | _ => none }
def manifestCellsRow : OpenClaim := { program := "ytgpjbigelblanaagreatdoor", sum := "1055ae9b5f8e7d5d535d05e3e1bd0635fd1759e429c4ca6b6b81de592bf308f1", func := "consignor/consignorlaw15.ManifestCells", spec := "manifestCells", inPlace := ["internal/abi.NoEscape", "internal/bytealg.IndexByteString", "internal/bytealg.IndexString", "internal/bytealg.CountString", "internal/bytealg.MakeNoZero"], unfollowed := true, recurses := true, named := ["consignor/keys.parties", "internal/strconv.uint64pow10", "math/bits.deBruijn32tab", "math/bits.deBruijn64tab", "internal/bytealg.MaxLen", "unicode/utf8.first", "unicode/utf8.acceptRanges", "strconv.ErrSyntax", "strconv.ErrRange"], plainKeys := false, apart := false, laid := [("math/bits.deBruijn32tab", laid_math_bits_deBruijn32tab), ("math/bits.deBruijn64tab", laid_math_bits_deBruijn64tab), ("internal/strconv.uint64pow10", laid_internal_strconv_uint64pow10), ("unicode/utf8.acceptRanges", laid_unicode_utf8_acceptRanges), ("strconv.ErrRange", laid_strconv_ErrRange), ("strconv.ErrSyntax", laid_strconv_ErrSyntax), ("consignor/keys.parties", laid_consignor_keys_parties), ("unicode/utf8.first", laid_unicode_utf8_first)] }
def ManifestCellsSaid : Prop := manifestCellsRow.holds Tryz.pinned (OpenSpec.ofChange manifestCellsSpec)

/-- ITS FALSE NEIGHBOUR: 'it returns false'. Refute it at one input. -/
def manifestCellsWrong : ChangeSpec := { name := "manifestCells", fn := fun _ => fun
  | [d1, d2, d3] => { results := [.lit (.bool false)], args := [d1, d2, d3] }
  | _ => none }
def ManifestCellsWrongFalsely : Prop := manifestCellsRow.holds Tryz.pinned (OpenSpec.ofChange manifestCellsWrong)

/-- 'consignorlaw15.ManifestBack': WHATEVER THE INPUT: true; the input reads as it did. -/
def manifestBackSpec : ChangeSpec := { name := "manifestBack", fn := fun _ => fun
  | [d1, d2] => { results := [.lit (.bool true)], args := [d1, d2] }
  | _ => none }
def manifestBackRow : OpenClaim := { program := "ytgpjbigelblanaagreatdoor", sum := "1055ae9b5f8e7d5d535d05e3e1bd0635fd1759e429c4ca6b6b81de592bf308f1", func := "consignor/consignorlaw15.ManifestBack", spec := "manifestBack", inPlace := ["internal/abi.NoEscape", "internal/bytealg.IndexByteString", "internal/bytealg.IndexString", "internal/bytealg.CountString", "internal/bytealg.MakeNoZero"], unfollowed := true, recurses := true, named := ["consignor/keys.parties", "internal/strconv.uint64pow10", "math/bits.deBruijn32tab", "math/bits.deBruijn64tab", "internal/bytealg.MaxLen", "unicode/utf8.first", "unicode/utf8.acceptRanges", "strconv.ErrSyntax", "strconv.ErrRange"], plainKeys := false, apart := false, laid := [("math/bits.deBruijn32tab", laid_math_bits_deBruijn32tab), ("math/bits.deBruijn64tab", laid_math_bits_deBruijn64tab), ("internal/strconv.uint64pow10", laid_internal_strconv_uint64pow10), ("unicode/utf8.acceptRanges", laid_unicode_utf8_acceptRanges), ("strconv.ErrRange", laid_strconv_ErrRange), ("strconv.ErrSyntax", laid_strconv_ErrSyntax), ("consignor/keys.parties", laid_consignor_keys_parties), ("unicode/utf8.first", laid_unicode_utf8_first)] }
def ManifestBackSaid : Prop := manifestBackRow.holds Tryz.pinned (OpenSpec.ofChange manifestBackSpec)

/-- ITS FALSE NEIGHBOUR: 'it returns false'. Refute it at one input. -/
def manifestBackWrong : ChangeSpec := { name := "manifestBack", fn := fun _ => fun
  | [d1, d2] => { results := [.lit (.bool false)], args := [d1, d2] }
  | _ => none }
def ManifestBackWrongFalsely : Prop := manifestBackRow.holds Tryz.pinned (OpenSpec.ofChange manifestBackWrong)

/-- 'consignorlaw15.ManifestForm': WHATEVER THE INPUT: true; the input reads as it did. -/
def manifestFormSpec : ChangeSpec := { name := "manifestForm", fn := fun _ => fun
  | [d] => { results := [.lit (.bool true)], args := [d] }
  | _ => none }
def manifestFormRow : OpenClaim := { program := "ytgpjbigelblanaagreatdoor", sum := "1055ae9b5f8e7d5d535d05e3e1bd0635fd1759e429c4ca6b6b81de592bf308f1", func := "consignor/consignorlaw15.ManifestForm", spec := "manifestForm", inPlace := ["internal/abi.NoEscape", "internal/bytealg.IndexByteString", "internal/bytealg.IndexString", "internal/bytealg.CountString", "internal/bytealg.MakeNoZero"], unfollowed := true, recurses := true, named := ["consignor/keys.parties", "internal/strconv.uint64pow10", "math/bits.deBruijn32tab", "math/bits.deBruijn64tab", "internal/bytealg.MaxLen", "unicode/utf8.first", "unicode/utf8.acceptRanges", "strconv.ErrSyntax", "strconv.ErrRange"], plainKeys := false, apart := false, laid := [("math/bits.deBruijn32tab", laid_math_bits_deBruijn32tab), ("math/bits.deBruijn64tab", laid_math_bits_deBruijn64tab), ("internal/strconv.uint64pow10", laid_internal_strconv_uint64pow10), ("unicode/utf8.acceptRanges", laid_unicode_utf8_acceptRanges), ("strconv.ErrRange", laid_strconv_ErrRange), ("strconv.ErrSyntax", laid_strconv_ErrSyntax), ("consignor/keys.parties", laid_consignor_keys_parties), ("unicode/utf8.first", laid_unicode_utf8_first)] }
def ManifestFormSaid : Prop := manifestFormRow.holds Tryz.pinned (OpenSpec.ofChange manifestFormSpec)

/-- ITS FALSE NEIGHBOUR: 'it returns false'. Refute it at one input. -/
def manifestFormWrong : ChangeSpec := { name := "manifestForm", fn := fun _ => fun
  | [d] => { results := [.lit (.bool false)], args := [d] }
  | _ => none }
def ManifestFormWrongFalsely : Prop := manifestFormRow.holds Tryz.pinned (OpenSpec.ofChange manifestFormWrong)

/- THE SECOND FORM. 'bulk': how many values and letters a reading holds, each counted each time it is reached (what is shared counts as often as it is met; a slice's spare places count too). A statement '..UptoSaid' is the law's where the arguments, and the package variables that the reading takes, are together of bulk at most 1048576: NARROWER than '..Said'. Prove '..Said' where nothing that the law and all that it calls make is longer than what came in: it says more and counts as full. Else prove '..UptoSaid'. A law counts once. -/
mutual
def uptoBulk {H : Type} : DataW H → Nat
  | .lit (.string bytes) => bytes.length + 1
  | .lit _ => 1
  | .nil => 1
  | .ptr d => uptoBulk d + 1
  | .slice elems spare => uptoBulkAll elems + uptoBulkAll spare + 1
  | .agg parts => uptoBulkAll parts + 1
  | .iface _ d => uptoBulk d + 1
  | .map entries => uptoBulkEntries entries + 1
  | .held _ => 1
def uptoBulkAll {H : Type} : List (DataW H) → Nat
  | [] => 0
  | d :: r => uptoBulk d + uptoBulkAll r
def uptoBulkEntries {H : Type} : List (Lit × DataW H) → Nat
  | [] => 0
  | x :: r => uptoBulkEntry x + uptoBulkEntries r
def uptoBulkEntry {H : Type} : Lit × DataW H → Nat
  | (.string bytes, d) => bytes.length + uptoBulk d + 1
  | (_, d) => uptoBulk d + 1
 end
def uptoSmall : (H : Type) → List (DataW H) → Bool := fun _ ds => decide (uptoBulkAll ds ≤ 1048576)
def OpenSpec.upto (s : _root_.Go.ChangeSpec) : _root_.Go.OpenSpec := { _root_.Go.OpenSpec.ofChange s with cond := some uptoSmall }

/-- 'consignorlaw14.StockPrint', WHERE WHAT IT READS IS OF BULK AT MOST 1048576: true; the input reads as it did. -/
def stockPrintUptoRow : OpenClaim := { program := "ytgpjbigelblanaagreatdoor", sum := "1055ae9b5f8e7d5d535d05e3e1bd0635fd1759e429c4ca6b6b81de592bf308f1", func := "consignor/consignorlaw14.StockPrint", spec := "stockPrint", inPlace := ["internal/abi.NoEscape", "internal/bytealg.IndexByteString", "internal/bytealg.IndexString", "internal/bytealg.CountString", "internal/bytealg.MakeNoZero"], unfollowed := true, recurses := true, named := ["consignor/keys.parties", "internal/strconv.uint64pow10", "math/bits.deBruijn32tab", "math/bits.deBruijn64tab", "consignor/keys.deeds", "consignor/stock.words", "internal/bytealg.MaxLen", "unicode/utf8.first", "unicode/utf8.acceptRanges", "strconv.ErrSyntax", "strconv.ErrRange"], plainKeys := false, apart := false, laid := [("math/bits.deBruijn32tab", laid_math_bits_deBruijn32tab), ("math/bits.deBruijn64tab", laid_math_bits_deBruijn64tab), ("internal/strconv.uint64pow10", laid_internal_strconv_uint64pow10), ("unicode/utf8.acceptRanges", laid_unicode_utf8_acceptRanges), ("strconv.ErrRange", laid_strconv_ErrRange), ("strconv.ErrSyntax", laid_strconv_ErrSyntax), ("consignor/keys.parties", laid_consignor_keys_parties), ("consignor/keys.deeds", laid_consignor_keys_deeds), ("consignor/stock.words", laid_consignor_stock_words), ("unicode/utf8.first", laid_unicode_utf8_first)], narrowed := true }
def StockPrintUptoSaid : Prop := stockPrintUptoRow.holds Tryz.pinned (OpenSpec.upto stockPrintSpec)

/-- 'consignorlaw14.StockParse', WHERE WHAT IT READS IS OF BULK AT MOST 1048576: true; the input reads as it did. -/
def stockParseUptoRow : OpenClaim := { program := "ytgpjbigelblanaagreatdoor", sum := "1055ae9b5f8e7d5d535d05e3e1bd0635fd1759e429c4ca6b6b81de592bf308f1", func := "consignor/consignorlaw14.StockParse", spec := "stockParse", inPlace := ["internal/abi.NoEscape", "internal/bytealg.IndexByteString", "internal/bytealg.IndexString", "internal/bytealg.CountString", "internal/bytealg.MakeNoZero"], unfollowed := true, recurses := true, named := ["consignor/keys.parties", "internal/strconv.uint64pow10", "math/bits.deBruijn32tab", "math/bits.deBruijn64tab", "consignor/keys.deeds", "consignor/stock.words", "internal/bytealg.MaxLen", "unicode/utf8.first", "unicode/utf8.acceptRanges", "strconv.ErrSyntax", "strconv.ErrRange"], plainKeys := false, apart := false, laid := [("math/bits.deBruijn32tab", laid_math_bits_deBruijn32tab), ("math/bits.deBruijn64tab", laid_math_bits_deBruijn64tab), ("internal/strconv.uint64pow10", laid_internal_strconv_uint64pow10), ("unicode/utf8.acceptRanges", laid_unicode_utf8_acceptRanges), ("strconv.ErrRange", laid_strconv_ErrRange), ("strconv.ErrSyntax", laid_strconv_ErrSyntax), ("consignor/keys.parties", laid_consignor_keys_parties), ("consignor/keys.deeds", laid_consignor_keys_deeds), ("consignor/stock.words", laid_consignor_stock_words), ("unicode/utf8.first", laid_unicode_utf8_first)], narrowed := true }
def StockParseUptoSaid : Prop := stockParseUptoRow.holds Tryz.pinned (OpenSpec.upto stockParseSpec)

/-- 'consignorlaw14.StockCells', WHERE WHAT IT READS IS OF BULK AT MOST 1048576: true; the input reads as it did. -/
def stockCellsUptoRow : OpenClaim := { program := "ytgpjbigelblanaagreatdoor", sum := "1055ae9b5f8e7d5d535d05e3e1bd0635fd1759e429c4ca6b6b81de592bf308f1", func := "consignor/consignorlaw14.StockCells", spec := "stockCells", inPlace := ["internal/abi.NoEscape", "internal/bytealg.IndexByteString", "internal/bytealg.IndexString", "internal/bytealg.CountString", "internal/bytealg.MakeNoZero"], unfollowed := true, recurses := true, named := ["consignor/keys.parties", "internal/strconv.uint64pow10", "math/bits.deBruijn32tab", "math/bits.deBruijn64tab", "consignor/keys.deeds", "consignor/stock.words", "internal/bytealg.MaxLen", "unicode/utf8.first", "unicode/utf8.acceptRanges", "strconv.ErrSyntax", "strconv.ErrRange"], plainKeys := false, apart := false, laid := [("math/bits.deBruijn32tab", laid_math_bits_deBruijn32tab), ("math/bits.deBruijn64tab", laid_math_bits_deBruijn64tab), ("internal/strconv.uint64pow10", laid_internal_strconv_uint64pow10), ("unicode/utf8.acceptRanges", laid_unicode_utf8_acceptRanges), ("strconv.ErrRange", laid_strconv_ErrRange), ("strconv.ErrSyntax", laid_strconv_ErrSyntax), ("consignor/keys.parties", laid_consignor_keys_parties), ("consignor/keys.deeds", laid_consignor_keys_deeds), ("consignor/stock.words", laid_consignor_stock_words), ("unicode/utf8.first", laid_unicode_utf8_first)], narrowed := true }
def StockCellsUptoSaid : Prop := stockCellsUptoRow.holds Tryz.pinned (OpenSpec.upto stockCellsSpec)

/-- 'consignorlaw15.ManifestPrint', WHERE WHAT IT READS IS OF BULK AT MOST 1048576: true; the input reads as it did. -/
def manifestPrintUptoRow : OpenClaim := { program := "ytgpjbigelblanaagreatdoor", sum := "1055ae9b5f8e7d5d535d05e3e1bd0635fd1759e429c4ca6b6b81de592bf308f1", func := "consignor/consignorlaw15.ManifestPrint", spec := "manifestPrint", inPlace := ["internal/abi.NoEscape", "internal/bytealg.IndexByteString", "internal/bytealg.IndexString", "internal/bytealg.CountString", "internal/bytealg.MakeNoZero"], unfollowed := true, recurses := true, named := ["consignor/keys.parties", "internal/strconv.uint64pow10", "math/bits.deBruijn32tab", "math/bits.deBruijn64tab", "internal/bytealg.MaxLen", "unicode/utf8.first", "unicode/utf8.acceptRanges", "strconv.ErrSyntax", "strconv.ErrRange"], plainKeys := false, apart := false, laid := [("math/bits.deBruijn32tab", laid_math_bits_deBruijn32tab), ("math/bits.deBruijn64tab", laid_math_bits_deBruijn64tab), ("internal/strconv.uint64pow10", laid_internal_strconv_uint64pow10), ("unicode/utf8.acceptRanges", laid_unicode_utf8_acceptRanges), ("strconv.ErrRange", laid_strconv_ErrRange), ("strconv.ErrSyntax", laid_strconv_ErrSyntax), ("consignor/keys.parties", laid_consignor_keys_parties), ("unicode/utf8.first", laid_unicode_utf8_first)], narrowed := true }
def ManifestPrintUptoSaid : Prop := manifestPrintUptoRow.holds Tryz.pinned (OpenSpec.upto manifestPrintSpec)

/-- 'consignorlaw15.ManifestParse', WHERE WHAT IT READS IS OF BULK AT MOST 1048576: true; the input reads as it did. -/
def manifestParseUptoRow : OpenClaim := { program := "ytgpjbigelblanaagreatdoor", sum := "1055ae9b5f8e7d5d535d05e3e1bd0635fd1759e429c4ca6b6b81de592bf308f1", func := "consignor/consignorlaw15.ManifestParse", spec := "manifestParse", inPlace := ["internal/abi.NoEscape", "internal/bytealg.IndexByteString", "internal/bytealg.IndexString", "internal/bytealg.CountString", "internal/bytealg.MakeNoZero"], unfollowed := true, recurses := true, named := ["consignor/keys.parties", "internal/strconv.uint64pow10", "math/bits.deBruijn32tab", "math/bits.deBruijn64tab", "internal/bytealg.MaxLen", "unicode/utf8.first", "unicode/utf8.acceptRanges", "strconv.ErrSyntax", "strconv.ErrRange"], plainKeys := false, apart := false, laid := [("math/bits.deBruijn32tab", laid_math_bits_deBruijn32tab), ("math/bits.deBruijn64tab", laid_math_bits_deBruijn64tab), ("internal/strconv.uint64pow10", laid_internal_strconv_uint64pow10), ("unicode/utf8.acceptRanges", laid_unicode_utf8_acceptRanges), ("strconv.ErrRange", laid_strconv_ErrRange), ("strconv.ErrSyntax", laid_strconv_ErrSyntax), ("consignor/keys.parties", laid_consignor_keys_parties), ("unicode/utf8.first", laid_unicode_utf8_first)], narrowed := true }
def ManifestParseUptoSaid : Prop := manifestParseUptoRow.holds Tryz.pinned (OpenSpec.upto manifestParseSpec)

/-- 'consignorlaw15.ManifestCells', WHERE WHAT IT READS IS OF BULK AT MOST 1048576: true; the input reads as it did. -/
def manifestCellsUptoRow : OpenClaim := { program := "ytgpjbigelblanaagreatdoor", sum := "1055ae9b5f8e7d5d535d05e3e1bd0635fd1759e429c4ca6b6b81de592bf308f1", func := "consignor/consignorlaw15.ManifestCells", spec := "manifestCells", inPlace := ["internal/abi.NoEscape", "internal/bytealg.IndexByteString", "internal/bytealg.IndexString", "internal/bytealg.CountString", "internal/bytealg.MakeNoZero"], unfollowed := true, recurses := true, named := ["consignor/keys.parties", "internal/strconv.uint64pow10", "math/bits.deBruijn32tab", "math/bits.deBruijn64tab", "internal/bytealg.MaxLen", "unicode/utf8.first", "unicode/utf8.acceptRanges", "strconv.ErrSyntax", "strconv.ErrRange"], plainKeys := false, apart := false, laid := [("math/bits.deBruijn32tab", laid_math_bits_deBruijn32tab), ("math/bits.deBruijn64tab", laid_math_bits_deBruijn64tab), ("internal/strconv.uint64pow10", laid_internal_strconv_uint64pow10), ("unicode/utf8.acceptRanges", laid_unicode_utf8_acceptRanges), ("strconv.ErrRange", laid_strconv_ErrRange), ("strconv.ErrSyntax", laid_strconv_ErrSyntax), ("consignor/keys.parties", laid_consignor_keys_parties), ("unicode/utf8.first", laid_unicode_utf8_first)], narrowed := true }
def ManifestCellsUptoSaid : Prop := manifestCellsUptoRow.holds Tryz.pinned (OpenSpec.upto manifestCellsSpec)

/-- 'consignorlaw15.ManifestBack', WHERE WHAT IT READS IS OF BULK AT MOST 1048576: true; the input reads as it did. -/
def manifestBackUptoRow : OpenClaim := { program := "ytgpjbigelblanaagreatdoor", sum := "1055ae9b5f8e7d5d535d05e3e1bd0635fd1759e429c4ca6b6b81de592bf308f1", func := "consignor/consignorlaw15.ManifestBack", spec := "manifestBack", inPlace := ["internal/abi.NoEscape", "internal/bytealg.IndexByteString", "internal/bytealg.IndexString", "internal/bytealg.CountString", "internal/bytealg.MakeNoZero"], unfollowed := true, recurses := true, named := ["consignor/keys.parties", "internal/strconv.uint64pow10", "math/bits.deBruijn32tab", "math/bits.deBruijn64tab", "internal/bytealg.MaxLen", "unicode/utf8.first", "unicode/utf8.acceptRanges", "strconv.ErrSyntax", "strconv.ErrRange"], plainKeys := false, apart := false, laid := [("math/bits.deBruijn32tab", laid_math_bits_deBruijn32tab), ("math/bits.deBruijn64tab", laid_math_bits_deBruijn64tab), ("internal/strconv.uint64pow10", laid_internal_strconv_uint64pow10), ("unicode/utf8.acceptRanges", laid_unicode_utf8_acceptRanges), ("strconv.ErrRange", laid_strconv_ErrRange), ("strconv.ErrSyntax", laid_strconv_ErrSyntax), ("consignor/keys.parties", laid_consignor_keys_parties), ("unicode/utf8.first", laid_unicode_utf8_first)], narrowed := true }
def ManifestBackUptoSaid : Prop := manifestBackUptoRow.holds Tryz.pinned (OpenSpec.upto manifestBackSpec)

/-- 'consignorlaw15.ManifestForm', WHERE WHAT IT READS IS OF BULK AT MOST 1048576: true; the input reads as it did. -/
def manifestFormUptoRow : OpenClaim := { program := "ytgpjbigelblanaagreatdoor", sum := "1055ae9b5f8e7d5d535d05e3e1bd0635fd1759e429c4ca6b6b81de592bf308f1", func := "consignor/consignorlaw15.ManifestForm", spec := "manifestForm", inPlace := ["internal/abi.NoEscape", "internal/bytealg.IndexByteString", "internal/bytealg.IndexString", "internal/bytealg.CountString", "internal/bytealg.MakeNoZero"], unfollowed := true, recurses := true, named := ["consignor/keys.parties", "internal/strconv.uint64pow10", "math/bits.deBruijn32tab", "math/bits.deBruijn64tab", "internal/bytealg.MaxLen", "unicode/utf8.first", "unicode/utf8.acceptRanges", "strconv.ErrSyntax", "strconv.ErrRange"], plainKeys := false, apart := false, laid := [("math/bits.deBruijn32tab", laid_math_bits_deBruijn32tab), ("math/bits.deBruijn64tab", laid_math_bits_deBruijn64tab), ("internal/strconv.uint64pow10", laid_internal_strconv_uint64pow10), ("unicode/utf8.acceptRanges", laid_unicode_utf8_acceptRanges), ("strconv.ErrRange", laid_strconv_ErrRange), ("strconv.ErrSyntax", laid_strconv_ErrSyntax), ("consignor/keys.parties", laid_consignor_keys_parties), ("unicode/utf8.first", laid_unicode_utf8_first)], narrowed := true }
def ManifestFormUptoSaid : Prop := manifestFormUptoRow.holds Tryz.pinned (OpenSpec.upto manifestFormSpec)

end Rows
end Go.Proofs.YtgpjbigelblanaaGreatDoor
