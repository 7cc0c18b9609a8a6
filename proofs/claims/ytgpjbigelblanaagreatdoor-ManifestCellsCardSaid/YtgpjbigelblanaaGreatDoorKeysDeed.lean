/- keys.Undoes; the document's Party. -/
import Derived.Test.YtgpjbigelblanaaGreatDoorKeysCore
namespace Go.Proofs.YtgpjbigelblanaaGreatDoor
open Go.RowKit Key

theorem refParty_any (d : Int) (w : World) (_hd : Mon.InR d) : Calls Tryz.prog 91 #[.int .i64 d] w fun e w' => e = .returned (.int .i64 (partyI d)) ∧ w = w' := by
  by_cases h : 0 ≤ d ∧ d < 6
  · rcases deed6 h with rfl | rfl | rfl | rfl | rfl | rfl <;>
    · go_enter Tryz.func91, Tryz.ntmps91
      go_wp2_with fail
      go_ret
      exact ⟨rfl, rfl⟩
  · have HF := Lib.hid (show partyI d = -1 by unfold partyI; rw [if_neg (by omega), if_neg (by omega), if_neg (by omega)])
    by_cases h1 : d < 0
    · go_enter Tryz.func91, Tryz.ntmps91
      go_wp2_with fail
      go_ret
      exact ⟨by rw [HF.out]; rfl, rfl⟩
    · have h2 : 5 < d := by omega
      clear h
      go_enter Tryz.func91, Tryz.ntmps91
      go_wp2_with fail
      go_ret
      exact ⟨by rw [HF.out]; rfl, rfl⟩
end Go.Proofs.YtgpjbigelblanaaGreatDoor
