/- The frame that the door laws over sagas and statements share: what 'laid' gives, the witness' world. -/
import Derived.Test.YtlfibaijpimocaaDoorKeyTab
import Derived.Deep.DeepHandedRow
import Derived.Lib.LaidTab
namespace Go.Proofs.YtlfibaijpimocaaDoor
open Go.ChangeShapes Go.WideShapes Go.ChangeAt

theorem doorOwn : ownKnob Tryd.prog.godebug = none := by kernel_rfl
theorem doorLaidOut : laidOutB Tryd.prog = true := by kernel_rfl
def doorObj (cs : Array Value) : Obj → Obj
  | .cells _ t frozen => .cells cs t frozen
  | o => o
def tabV (k : IntKind) (zs : List Int) : Array Value := (zs.map fun z => Value.int k z).toArray
theorem pt_of {r : List (String × DataW Unit)} {W : World} (h : laidMet Tryd.prog (("consignor/keys.parties", Lib.tabData .i64 [1, 0, 2, 1, 0, 2]) :: r) W) : PT W :=
  Lib.tabIs_of_head gParties (by kernel_rfl) Tryd.underlying40 Tryd.underlying3 (by kernel_rfl) (by kernel_rfl) h
/-- A WORLD FOR THE WITNESS: the settled one, the table as its initialiser lays it. -/
noncomputable def partyWorld (os : Os) : World :=
  { World.holding Tryd.prog os ⟨#[], #[], []⟩ with heap := (World.holding Tryd.prog os ⟨#[], #[], []⟩).heap.modify 0 (doorObj (tabV .i64 [1, 0, 2, 1, 0, 2])) }
end Go.Proofs.YtlfibaijpimocaaDoor
