/- Whether rows may be a party's: the document's Check, Valid. -/
import Derived.Test.YtnfbhocppijbjaaDoorRowValid
import Derived.Deep.Cut
import Derived.Deep.CutRange
namespace Go.Proofs.YtnfbhocppijbjaaDoor
open Go.RowKit Go.Maps Key Rw

theorem okAt_eq {p : Int} {l : List R5} {x : R5} {k : Nat} (hx : l[k]? = some x) : okAt p l k = (okRow p x && risen l x k) := by unfold okAt; rw [hx]
theorem okAt_not {p : Int} {l : List R5} {x : R5} {k : Nat} (hx : l[k]? = some x) (h : risen l x k = false) : okAt p l k = false := by rw [okAt_eq hx, h]; simp
end Go.Proofs.YtnfbhocppijbjaaDoor
