/- The frame that the door laws over money's texts share: what 'laid' gives, the witness' world. -/
import Derived.Test.YtgpjbigelblanaaDoorMoneyText
import Derived.Deep.DeepHandedRow
import Derived.Lib.LaidTab
import Derived.Stop.LaidErr
import Derived.Test.YtgpjbigelblanaaDoorManifestGen
namespace Go.Proofs.YtgpjbigelblanaaDoor
open Go.ChangeShapes Go.WideShapes Go.ChangeAt

theorem doorOwn : ownKnob Tryd.prog.godebug = none := by kernel_rfl
theorem doorLaidOut : laidOutB Tryd.prog = true := by kernel_rfl

theorem gSyn : Tryd.prog.globalNamed "strconv.ErrSyntax" = some 7 := by kernel_rfl
theorem gRng : Tryd.prog.globalNamed "strconv.ErrRange" = some 8 := by kernel_rfl
theorem gTab : Tryd.prog.globalNamed "internal/strconv.uint64pow10" = some 4 := by kernel_rfl
theorem gSynT : (Tryd.prog.globals[7]?).map (·.type) = some 60 := by kernel_rfl
theorem gRngT : (Tryd.prog.globals[8]?).map (·.type) = some 60 := by kernel_rfl
theorem cellsErr : Tryd.prog.cellsOf 157 = 1 := by kernel_rfl
theorem cellsStr : Tryd.prog.cellsOf 9 = 1 := by kernel_rfl
theorem starErr : "*" ++ "errors.errorString" = "*errors.errorString" := by decide
theorem rowErr (u : TypeId) (h : Tryd.prog.typeName? 3 u = some "*errors.errorString") : u = 155 :=
  typeName_ptr_named (nm := "errors.errorString") (by rw [starErr]; kernel_rfl) (by kernel_rfl) (by decide) u (by rw [starErr]; exact h)

abbrev synText : List UInt8 := [105, 110, 118, 97, 108, 105, 100, 32, 115, 121, 110, 116, 97, 120]
abbrev rngText : List UInt8 := [118, 97, 108, 117, 101, 32, 111, 117, 116, 32, 111, 102, 32, 114, 97, 110, 103, 101]

theorem mw_of {r : List (String × DataW Unit)} {d1 d2 : String × DataW Unit} {W : World}
    (h : laidMet Tryd.prog (d1 :: d2 :: ("internal/strconv.uint64pow10", Lib.tabData .u64 Lib.pow10Tab) :: ("strconv.ErrRange", .iface "*errors.errorString" (.ptr (.agg [.lit (.string rngText)]))) :: ("strconv.ErrSyntax", .iface "*errors.errorString" (.ptr (.agg [.lit (.string synText)]))) :: r) W) : MW W := by
  obtain ⟨a0, _, hv0, -, -, -⟩ := laid_sentinel h.tail.tail.tail gRng gRngT Tryd.underlying60 rowErr Tryd.underlying155 Tryd.underlying157 rfl rfl Tryd.underlying9 cellsErr cellsStr
  obtain ⟨a1, _, hv1, -, -, -⟩ := laid_sentinel h.tail.tail.tail.tail gSyn gSynT Tryd.underlying60 rowErr Tryd.underlying155 Tryd.underlying157 rfl rfl Tryd.underlying9 cellsErr cellsStr
  exact ⟨Lib.tabIs_of_head gTab (by kernel_rfl) Tryd.underlying139 Tryd.underlying122 (by kernel_rfl) (by kernel_rfl) h.tail.tail, ⟨_, _, hv1⟩, ⟨_, _, hv0⟩⟩

def doorObj (cs : Array Value) : Obj → Obj
  | .cells _ t frozen => .cells cs t frozen
  | o => o
def tabV (k : IntKind) (zs : List Int) : Array Value := (zs.map fun z => Value.int k z).toArray
/-- So many blocks has the settled world. -/
noncomputable def doorLow : Nat := (World.holding Tryd.prog default ⟨#[], #[], []⟩).heap.size
/-- A WORLD FOR THE WITNESS: the settled one, two sentinels more, the tables as their initialisers lay them. -/
noncomputable def doorWorld (os : Os) : World :=
  { World.holding Tryd.prog os ⟨#[.cells #[.string ⟨synText.toArray⟩] 157, .cells #[.string ⟨rngText.toArray⟩] 157], #[], []⟩ with
    heap := ((((World.holding Tryd.prog os ⟨#[.cells #[.string ⟨synText.toArray⟩] 157, .cells #[.string ⟨rngText.toArray⟩] 157], #[], []⟩).heap.modify 7 (doorObj #[.iface 155 (.pointer (some ⟨doorLow, 0, none⟩))])).modify 8 (doorObj #[.iface 155 (.pointer (some ⟨doorLow + 1, 0, none⟩))])).modify 4 (doorObj (tabV .u64 [1, 10, 100, 1000, 10000, 100000, 1000000, 10000000, 100000000, 1000000000, 10000000000, 100000000000, 1000000000000, 10000000000000, 100000000000000, 1000000000000000, 10000000000000000, 100000000000000000, 1000000000000000000, 10000000000000000000]))).modify 9 (doorObj (tabV .u8 [0, 1, 28, 2, 29, 14, 24, 3, 30, 22, 20, 15, 25, 17, 4, 8, 31, 27, 13, 23, 21, 19, 16, 7, 26, 12, 18, 6, 11, 5, 10, 9])) |>.modify 10 (doorObj (tabV .u8 [0, 1, 56, 2, 57, 49, 28, 3, 61, 58, 42, 50, 38, 29, 17, 4, 62, 47, 59, 36, 45, 43, 51, 22, 53, 39, 33, 30, 24, 18, 12, 5, 63, 55, 48, 27, 60, 41, 37, 16, 46, 35, 44, 21, 52, 32, 23, 11, 54, 26, 40, 15, 34, 20, 31, 10, 25, 14, 19, 9, 13, 8, 7, 6])) }
end Go.Proofs.YtgpjbigelblanaaDoor
namespace Go.Proofs.YtgpjbigelblanaaDoor
open Go.ChangeShapes Go.WideShapes Go.ChangeAt

theorem gPartiesM : Tryd.prog.globalNamed "consignor/keys.parties" = some 2 := by kernel_rfl
theorem mf_of {r : List (String × DataW Unit)} {d1 d2 d3 : String × DataW Unit} {W : World} (hS : W.ShapedOpen Tryd.prog)
    (h : laidMet Tryd.prog (d1 :: d2 :: ("internal/strconv.uint64pow10", Lib.tabData .u64 Lib.pow10Tab) :: d3 :: ("strconv.ErrRange", .iface "*errors.errorString" (.ptr (.agg [.lit (.string rngText)]))) :: ("strconv.ErrSyntax", .iface "*errors.errorString" (.ptr (.agg [.lit (.string synText)]))) :: ("consignor/keys.parties", Lib.tabData .i64 [1, 0, 2, 1, 0, 2]) :: r) W) : MfW W := by
  obtain ⟨a0, _, hv0, -, -, -⟩ := laid_sentinel h.tail.tail.tail.tail gRng gRngT Tryd.underlying60 rowErr Tryd.underlying155 Tryd.underlying157 rfl rfl Tryd.underlying9 cellsErr cellsStr
  obtain ⟨a1, _, hv1, -, -, -⟩ := laid_sentinel h.tail.tail.tail.tail.tail gSyn gSynT Tryd.underlying60 rowErr Tryd.underlying155 Tryd.underlying157 rfl rfl Tryd.underlying9 cellsErr cellsStr
  refine ⟨⟨Lib.tabIs_of_head gTab (by kernel_rfl) Tryd.underlying139 Tryd.underlying122 (by kernel_rfl) (by kernel_rfl) h.tail.tail, ⟨_, _, hv1⟩, ⟨_, _, hv0⟩⟩, Lib.tabIs_of_head gPartiesM (by kernel_rfl) Tryd.underlying107 Tryd.underlying3 (by kernel_rfl) (by kernel_rfl) h.tail.tail.tail.tail.tail.tail, ?_⟩
  obtain ⟨m, hm⟩ := Go.Proofs.cell_of_shapedOpen_int (zero := #[.int .i64 0]) (t := 3) (g := 3) hS (of_decide_eq_true (by kernel_rfl)) (by kernel_rfl) rfl (by kernel_rfl) (by kernel_rfl) Tryd.underlying3
  exact ⟨m, hm, World.block_lt_of_cell? W _ hm⟩

def tabCells : Array Value := (Go.Pinned.utf8FirstZ.map fun (n : Nat) => Value.int .u8 (Int.ofNat n)).toArray
def rangeCells : Array Value := #[.int .u8 128, .int .u8 191, .int .u8 160, .int .u8 191, .int .u8 128, .int .u8 159, .int .u8 144, .int .u8 191, .int .u8 128, .int .u8 143, .int .u8 0, .int .u8 0, .int .u8 0, .int .u8 0, .int .u8 0, .int .u8 0, .int .u8 0, .int .u8 0, .int .u8 0, .int .u8 0, .int .u8 0, .int .u8 0, .int .u8 0, .int .u8 0, .int .u8 0, .int .u8 0, .int .u8 0, .int .u8 0, .int .u8 0, .int .u8 0, .int .u8 0, .int .u8 0]
/-- A WORLD FOR THE WITNESS: the one with two sentinels, and three tables more. -/
noncomputable def mfWorld (os : Os) : World :=
  { doorWorld os with heap := (((doorWorld os).heap.modify 2 (doorObj (tabV .i64 [1, 0, 2, 1, 0, 2]))).modify 6 (doorObj rangeCells)).modify 5 (doorObj tabCells) }
end Go.Proofs.YtgpjbigelblanaaDoor
