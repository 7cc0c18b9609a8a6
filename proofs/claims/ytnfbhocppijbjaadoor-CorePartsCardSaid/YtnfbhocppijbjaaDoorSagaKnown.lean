/- How a saga's deed differs from a row: the program's known and the document's kind. -/
import Derived.Test.YtnfbhocppijbjaaDoorSagaWant
namespace Go.Proofs.YtnfbhocppijbjaaDoor
open Go.RowKit Key Sa
abbrev tRow0 : TypeId := 57
theorem below_alloc2 (w : World) (o o' : Obj) : Below w.heap.size w ((w.alloc o).alloc o') := (below_alloc w o).alloc (by simp) o'

end Go.Proofs.YtnfbhocppijbjaaDoor
