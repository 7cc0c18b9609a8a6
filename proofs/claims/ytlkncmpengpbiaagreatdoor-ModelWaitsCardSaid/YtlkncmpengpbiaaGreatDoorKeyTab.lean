/- keys.Party, over the laid table of parties. -/
import Derived.Test.YtlkncmpengpbiaaGreatDoorKeysDeed
import Derived.Lib.LaidTab
namespace Go.Proofs.YtlkncmpengpbiaaGreatDoor
open Go.RowKit Key

/-- The table of parties lies there. -/
def PT (w : World) : Prop := Lib.TabIs Tryz.prog w "consignor/keys.parties" .i64 [1, 0, 2, 1, 0, 2]
theorem PT.below {w w' : World} (h : PT w) (hb : Below w.heap.size w w') : PT w' := by
  unfold PT Lib.TabIs World.var? at *
  cases hg : Tryz.prog.globalNamed "consignor/keys.parties" with
  | none => rw [hg] at h; simp at h
  | some g =>
    rw [hg] at h
    simp only [Option.bind_some] at h ⊢
    by_cases hl : g < w.heap.size
    · rw [hb.block g hl]
      exact h
    · rw [Array.getElem?_eq_none (by omega)] at h
      simp at h
theorem gParties : Tryz.prog.globalNamed "consignor/keys.parties" = some 0 := by kernel_rfl

theorem party_any (d : Int) (w : World) (hK : PT w) : Calls Tryz.prog 107 #[.int .i64 d] w fun e w' => e = .returned (.int .i64 (partyI d)) ∧ w = w' := by
  have HT := Lib.hid (show Lib.TabIs Tryz.prog w "consignor/keys.parties" .i64 [1, 0, 2, 1, 0, 2] from hK)
  clear hK
  by_cases h : 0 ≤ d ∧ d < 6
  · have HI := Lib.hid (show ∀ W, Calls Tryz.prog 106 #[.int .i64 d] W fun e w' => e = .returned (.bool true) ∧ W = w' from fun W => by
      have := is_call d W
      rw [show isK d = true by unfold isK; simpa using h] at this
      exact this)
    have hc : w.cell? ⟨0, d.toNat, none⟩ = some (.int .i64 (partyI d)) := by
      rcases deed6 h with rfl | rfl | rfl | rfl | rfl | rfl
      · exact HT.out.cell gParties 0 (by decide)
      · exact HT.out.cell gParties 1 (by decide)
      · exact HT.out.cell gParties 2 (by decide)
      · exact HT.out.cell gParties 3 (by decide)
      · exact HT.out.cell gParties 4 (by decide)
      · exact HT.out.cell gParties 5 (by decide)
    obtain ⟨h1, h2⟩ := h
    go_enter Tryz.func107, Tryz.ntmps107
    go_wp2_with fail
    refine (HI.out _).mono ?_
    rintro e w1 ⟨rfl, hw⟩; subst hw
    go_wp2_with fail
    go_ret
    exact ⟨rfl, rfl⟩
  · have HI := Lib.hid (show ∀ W, Calls Tryz.prog 106 #[.int .i64 d] W fun e w' => e = .returned (.bool false) ∧ W = w' from fun W => by
      have := is_call d W
      rw [show isK d = false by unfold isK; simpa using h] at this
      exact this)
    have HF := Lib.hid (show partyI d = -1 by unfold partyI; rw [if_neg (by omega), if_neg (by omega), if_neg (by omega)])
    go_enter Tryz.func107, Tryz.ntmps107
    go_wp2_with fail
    refine (HI.out _).mono ?_
    rintro e w1 ⟨rfl, hw⟩; subst hw
    go_wp2_with fail
    go_ret
    exact ⟨by rw [HF.out]; rfl, rfl⟩
end Go.Proofs.YtlkncmpengpbiaaGreatDoor
