/- money.Pad: what it computes. -/
import Derived.Test.YtgpjbigelblanaaGreatDoorMoneyText
import Derived.Test.YtgpjbigelblanaaGreatDoorMoneyUnpad
import Derived.Lib.ItoaLen
namespace Go.Proofs.YtgpjbigelblanaaGreatDoor
open Go.RowKit Mon

theorem padM_no {n width : Int} (h : n < 0 ∨ width < 1 ∨ 18 < width ∨ width < ((Lib.itoa n).length : Int)) : padM n width = [] := by unfold padM; rw [if_pos h]

end Go.Proofs.YtgpjbigelblanaaGreatDoor
