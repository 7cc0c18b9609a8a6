/- money.Unpad; the document's Unpad: what they compute. -/
import Derived.Test.YtgpjbigelblanaaGreatDoorMoneyWalk1
namespace Go.Proofs.YtgpjbigelblanaaGreatDoor
open Go.RowKit Mon

theorem unpadM_no {l : List UInt8} (h : l = [] ∨ 18 < l.length ∨ ¬ ∀ c ∈ l, Digit c) : unpadM l = (0, false) := by unfold unpadM; rw [if_pos h]
theorem unpadM_ok {l : List UInt8} (h0 : ¬ l = []) (h1 : ¬ 18 < l.length) (h2 : ∀ c ∈ l, Digit c) : unpadM l = (((valFrom 0 l : Nat) : Int), true) := by
  unfold unpadM
  rw [if_neg (by rintro (h | h | h); exact h0 h; exact h1 h; exact h h2)]

end Go.Proofs.YtgpjbigelblanaaGreatDoor
