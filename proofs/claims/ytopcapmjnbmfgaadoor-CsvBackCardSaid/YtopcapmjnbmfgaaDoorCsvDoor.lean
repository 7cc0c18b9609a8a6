/- The frame that the three door laws of csv share: the witness' world, the world predicate, a [][]string argument. -/
import Derived.Test.YtopcapmjnbmfgaaDoorCsvOpen
import Derived.Test.YtopcapmjnbmfgaaDoorCsvField
import Derived.Test.YtopcapmjnbmfgaaDoorShelf
import Derived.Deep.DeepHandedRow
import Derived.Lib.LaidTab
namespace Go.Proofs.YtopcapmjnbmfgaaDoor
open Go.ChangeShapes Go.WideShapes Go.ChangeAt

theorem doorOwn : ownKnob Tryd.prog.godebug = none := by kernel_rfl
theorem doorLaidOut : laidOutB Tryd.prog = true := by kernel_rfl

theorem hasMax_of {w : World} (h : w.ShapedOpen Tryd.prog) : HasMax w := by
  obtain ⟨m, hm⟩ := Tryd.laysM155.s1_3 w h
  refine ⟨m, hm, ?_⟩
  refine Classical.byContradiction fun hn => ?_
  have h0 : w.heap[0]? = none := Array.getElem?_eq_none (Nat.le_of_not_lt hn)
  have h1 : w.cell? ⟨0, 0, none⟩ = some (.int .i64 m) := hm
  simp [World.cell?, h0] at h1

def tabCells : Array Value := (Go.Pinned.utf8FirstZ.map fun (n : Nat) => Value.int .u8 (Int.ofNat n)).toArray
def rangeCells : Array Value := #[.int .u8 128, .int .u8 191, .int .u8 160, .int .u8 191, .int .u8 128, .int .u8 159, .int .u8 144, .int .u8 191, .int .u8 128, .int .u8 143, .int .u8 0, .int .u8 0, .int .u8 0, .int .u8 0, .int .u8 0, .int .u8 0, .int .u8 0, .int .u8 0, .int .u8 0, .int .u8 0, .int .u8 0, .int .u8 0, .int .u8 0, .int .u8 0, .int .u8 0, .int .u8 0, .int .u8 0, .int .u8 0, .int .u8 0, .int .u8 0, .int .u8 0, .int .u8 0]

def doorObj (cs : Array Value) : Obj → Obj
  | .cells _ t frozen => .cells cs t frozen
  | o => o

/-- A WORLD FOR THE WITNESS: the settled one, the two tables as their initialisers lay them. -/
noncomputable def doorWorld (os : Os) : World :=
  { World.holding Tryd.prog os ⟨#[], #[], []⟩ with heap := ((World.holding Tryd.prog os ⟨#[], #[], []⟩).heap.modify 2 (doorObj rangeCells)).modify 1 (doorObj tabCells) }
end Go.Proofs.YtopcapmjnbmfgaaDoor
