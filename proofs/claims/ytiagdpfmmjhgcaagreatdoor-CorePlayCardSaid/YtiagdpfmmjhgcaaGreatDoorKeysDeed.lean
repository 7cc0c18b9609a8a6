/- keys.Undoes; the document's Party. -/
import Derived.Test.YtiagdpfmmjhgcaaGreatDoorKeysCore
namespace Go.Proofs.YtiagdpfmmjhgcaaGreatDoor
open Go.RowKit Key

theorem undoes_any (d : Int) (w : World) (_hd : Mon.InR d) : Calls Tryz.prog 115 #[.int .i64 d] w fun e w' => e = .returned (.tuple #[.int .i64 (undoI d).1, .bool (undoI d).2]) ∧ w = w' := by
  by_cases h : 3 ≤ d ∧ d ≤ 5
  · rw [show undoI d = (d - 3, true) by unfold undoI; rw [if_pos h]]
    obtain ⟨h1, h2⟩ := h
    go_enter Tryz.func115, Tryz.ntmps115
    go_wp2_with fail
    go_ret2
    exact ⟨rfl, rfl⟩
  · rw [show undoI d = (0, false) by unfold undoI; rw [if_neg h]]
    by_cases h1 : d < 3
    · go_enter Tryz.func115, Tryz.ntmps115
      go_wp2_with fail
      go_ret2
      exact ⟨rfl, rfl⟩
    · have h2 : 5 < d := by omega
      clear h
      go_enter Tryz.func115, Tryz.ntmps115
      go_wp2_with fail
      go_ret2
      exact ⟨rfl, rfl⟩
theorem refParty_any (d : Int) (w : World) (_hd : Mon.InR d) : Calls Tryz.prog 94 #[.int .i64 d] w fun e w' => e = .returned (.int .i64 (partyI d)) ∧ w = w' := by
  by_cases h : 0 ≤ d ∧ d < 6
  · rcases deed6 h with rfl | rfl | rfl | rfl | rfl | rfl <;>
    · go_enter Tryz.func94, Tryz.ntmps94
      go_wp2_with fail
      go_ret
      exact ⟨rfl, rfl⟩
  · have HF := Lib.hid (show partyI d = -1 by unfold partyI; rw [if_neg (by omega), if_neg (by omega), if_neg (by omega)])
    by_cases h1 : d < 0
    · go_enter Tryz.func94, Tryz.ntmps94
      go_wp2_with fail
      go_ret
      exact ⟨by rw [HF.out]; rfl, rfl⟩
    · have h2 : 5 < d := by omega
      clear h
      go_enter Tryz.func94, Tryz.ntmps94
      go_wp2_with fail
      go_ret
      exact ⟨by rw [HF.out]; rfl, rfl⟩
end Go.Proofs.YtiagdpfmmjhgcaaGreatDoor
