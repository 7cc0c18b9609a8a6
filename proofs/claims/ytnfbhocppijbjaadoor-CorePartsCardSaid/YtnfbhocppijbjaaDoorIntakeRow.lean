/- The document's intake: Row. -/
import Derived.Test.YtnfbhocppijbjaaDoorIntakeRef
namespace Go.Proofs.YtnfbhocppijbjaaDoor
open Go.RowKit Go.Maps Key Rw

theorem find_take {L : List R5} {k : Int × Int} {j : Nat} {x : R5} (hx : L[j]? = some x) : In.findR (L.take (j + 1)) k = (In.findR (L.take j) k).or (if x.1 = k then some x else none) := by
  unfold In.findR
  rw [List.take_add_one, hx, List.find?_append]
  by_cases h : x.1 = k <;> simp [h]
theorem find_le {L : List R5} {k : Int × Int} {j : Nat} {x : R5} (h : In.findR (L.take j) k = some x) : In.findR L k = some x := by
  have e : L = L.take j ++ L.drop j := (List.take_append_drop j L).symm
  rw [e]
  unfold In.findR at *
  rw [List.find?_append, h]
  rfl
end Go.Proofs.YtnfbhocppijbjaaDoor
