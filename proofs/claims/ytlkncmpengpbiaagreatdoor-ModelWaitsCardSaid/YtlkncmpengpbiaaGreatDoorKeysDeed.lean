/- keys.is, Check, Less; the document's Check, Less: what they compute. -/
import Derived.Test.YtlkncmpengpbiaaGreatDoorMem
import Derived.Test.YtlkncmpengpbiaaGreatDoorKeysSpec
namespace Go.Proofs.YtlkncmpengpbiaaGreatDoor
open Go.RowKit Key

def isK (d : Int) : Bool := decide (0 ≤ d ∧ d < 6)
def keyV (o d : Int) : Value := .agg #[.int .i64 o, .int .i64 d]
theorem below_alloc (w : World) (o : Obj) : Below w.heap.size w (w.alloc o) := (Below.refl _ _).alloc (Nat.le_refl _) _
theorem is_call (d : Int) (w : World) : Calls Tryz.prog 106 #[.int .i64 d] w fun e w' => e = .returned (.bool (isK d)) ∧ w = w' := by
  by_cases h1 : 0 ≤ d
  · by_cases h2 : d < 6
    · have HF := Lib.hid (show isK d = true by unfold isK; simp; omega)
      go_enter Tryz.func106, Tryz.ntmps106
      go_wp2_with fail
      go_ret
      exact ⟨by rw [HF.out]; rfl, rfl⟩
    · have HF := Lib.hid (show isK d = false by unfold isK; simp; omega)
      go_enter Tryz.func106, Tryz.ntmps106
      go_wp2_with fail
      go_ret
      exact ⟨by rw [HF.out]; rfl, rfl⟩
  · have HF := Lib.hid (show isK d = false by unfold isK; simp; omega)
    go_enter Tryz.func106, Tryz.ntmps106
    go_wp2_with fail
    go_ret
    exact ⟨by rw [HF.out]; rfl, rfl⟩

theorem check_any (o d : Int) (w : World) : Calls Tryz.prog 62 #[.agg #[.int .i64 o, .int .i64 d]] w fun e w' => e = .returned (.bool (chk o d)) ∧ Below w.heap.size w w' := by
  have HI := Lib.hid (is_call d)
  by_cases h1 : 1 ≤ o
  · by_cases h2 : o ≤ 60
    · have HF := Lib.hid (show chk o d = isK d by unfold chk isK; simp [h1, h2])
      go_enter Tryz.func62, Tryz.ntmps62
      go_wp2_with fail
      refine (HI.out _).mono ?_
      rintro e w1 ⟨rfl, hw⟩
      subst hw
      go_wp2_with fail
      go_ret
      exact ⟨by rw [HF.out]; rfl, below_alloc _ _⟩
    · have HF := Lib.hid (show chk o d = false by unfold chk; simp; omega)
      go_enter Tryz.func62, Tryz.ntmps62
      go_wp2_with fail
      go_ret
      exact ⟨by rw [HF.out]; rfl, below_alloc _ _⟩
  · have HF := Lib.hid (show chk o d = false by unfold chk; simp; omega)
    go_enter Tryz.func62, Tryz.ntmps62
    go_wp2_with fail
    go_ret
    exact ⟨by rw [HF.out]; rfl, below_alloc _ _⟩
theorem less_any (a b c d : Int) (w : World) : Calls Tryz.prog 72 #[.agg #[.int .i64 a, .int .i64 b], .agg #[.int .i64 c, .int .i64 d]] w fun e w' => e = .returned (.bool (lessB a b c d)) ∧ Below w.heap.size w w' := by
  by_cases h : a = c
  · by_cases h2 : b < d
    · have HF := Lib.hid (show lessB a b c d = true by unfold lessB; simp; omega)
      have hb := beqT h
      have hb2 := bneF h
      have hl : ¬ a < c := by omega
      clear h
      go_enter Tryz.func72, Tryz.ntmps72
      go_wp2_with fail
      go_ret
      exact ⟨by rw [HF.out]; rfl, ((Below.refl _ _).alloc (Nat.le_refl _) _).alloc (by simp) _⟩
    · have HF := Lib.hid (show lessB a b c d = false by unfold lessB; simp; omega)
      have hb := beqT h
      have hb2 := bneF h
      have hl : ¬ a < c := by omega
      clear h
      go_enter Tryz.func72, Tryz.ntmps72
      go_wp2_with fail
      go_ret
      exact ⟨by rw [HF.out]; rfl, ((Below.refl _ _).alloc (Nat.le_refl _) _).alloc (by simp) _⟩
  · by_cases h2 : a < c
    · have HF := Lib.hid (show lessB a b c d = true by unfold lessB; simp; omega)
      have hb := beqF h
      have hb2 := bneT h
      go_enter Tryz.func72, Tryz.ntmps72
      go_wp2_with fail
      go_ret
      exact ⟨by rw [HF.out]; rfl, ((Below.refl _ _).alloc (Nat.le_refl _) _).alloc (by simp) _⟩
    · have HF := Lib.hid (show lessB a b c d = false by unfold lessB; simp; omega)
      have hb := beqF h
      have hb2 := bneT h
      go_enter Tryz.func72, Tryz.ntmps72
      go_wp2_with fail
      go_ret
      exact ⟨by rw [HF.out]; rfl, ((Below.refl _ _).alloc (Nat.le_refl _) _).alloc (by simp) _⟩
theorem refLess_any (a b c d : Int) (w : World) : Calls Tryz.prog 122 #[.agg #[.int .i64 a, .int .i64 b], .agg #[.int .i64 c, .int .i64 d]] w fun e w' => e = .returned (.bool (lessB a b c d)) ∧ Below w.heap.size w w' := by
  by_cases h : a = c
  · by_cases h2 : b < d
    · have HF := Lib.hid (show lessB a b c d = true by unfold lessB; simp; omega)
      have hb := beqT h
      have hb2 := bneF h
      have hl : ¬ a < c := by omega
      clear h
      go_enter Tryz.func122, Tryz.ntmps122
      go_wp2_with fail
      go_ret
      exact ⟨by rw [HF.out]; rfl, ((Below.refl _ _).alloc (Nat.le_refl _) _).alloc (by simp) _⟩
    · have HF := Lib.hid (show lessB a b c d = false by unfold lessB; simp; omega)
      have hb := beqT h
      have hb2 := bneF h
      have hl : ¬ a < c := by omega
      clear h
      go_enter Tryz.func122, Tryz.ntmps122
      go_wp2_with fail
      go_ret
      exact ⟨by rw [HF.out]; rfl, ((Below.refl _ _).alloc (Nat.le_refl _) _).alloc (by simp) _⟩
  · by_cases h2 : a < c
    · have HF := Lib.hid (show lessB a b c d = true by unfold lessB; simp; omega)
      have hb := beqF h
      have hb2 := bneT h
      go_enter Tryz.func122, Tryz.ntmps122
      go_wp2_with fail
      go_ret
      exact ⟨by rw [HF.out]; rfl, ((Below.refl _ _).alloc (Nat.le_refl _) _).alloc (by simp) _⟩
    · have HF := Lib.hid (show lessB a b c d = false by unfold lessB; simp; omega)
      have hb := beqF h
      have hb2 := bneT h
      go_enter Tryz.func122, Tryz.ntmps122
      go_wp2_with fail
      go_ret
      exact ⟨by rw [HF.out]; rfl, ((Below.refl _ _).alloc (Nat.le_refl _) _).alloc (by simp) _⟩
theorem refCheck_any (o d : Int) (w : World) : Calls Tryz.prog 87 #[.agg #[.int .i64 o, .int .i64 d]] w fun e w' => e = .returned (.bool (chk o d)) ∧ Below w.heap.size w w' := by
  by_cases h1 : 0 < o
  · by_cases h2 : o < 61
    · by_cases h3 : 0 ≤ d
      · by_cases h4 : d < 6
        · have HF := Lib.hid (show chk o d = true by unfold chk; simp; omega)
          go_enter Tryz.func87, Tryz.ntmps87
          go_wp2_with fail
          go_ret
          exact ⟨by rw [HF.out]; rfl, below_alloc _ _⟩
        · have HF := Lib.hid (show chk o d = false by unfold chk; simp; omega)
          go_enter Tryz.func87, Tryz.ntmps87
          go_wp2_with fail
          go_ret
          exact ⟨by rw [HF.out]; rfl, below_alloc _ _⟩
      · have HF := Lib.hid (show chk o d = false by unfold chk; simp; omega)
        go_enter Tryz.func87, Tryz.ntmps87
        go_wp2_with fail
        go_ret
        exact ⟨by rw [HF.out]; rfl, below_alloc _ _⟩
    · have HF := Lib.hid (show chk o d = false by unfold chk; simp; omega)
      go_enter Tryz.func87, Tryz.ntmps87
      go_wp2_with fail
      go_ret
      exact ⟨by rw [HF.out]; rfl, below_alloc _ _⟩
  · have HF := Lib.hid (show chk o d = false by unfold chk; simp; omega)
    go_enter Tryz.func87, Tryz.ntmps87
    go_wp2_with fail
    go_ret
    exact ⟨by rw [HF.out]; rfl, below_alloc _ _⟩
end Go.Proofs.YtlkncmpengpbiaaGreatDoor
/- keys.Undoes; the document's Party. -/
namespace Go.Proofs.YtlkncmpengpbiaaGreatDoor
open Go.RowKit Key

theorem undoes_any (d : Int) (w : World) (_hd : Mon.InR d) : Calls Tryz.prog 174 #[.int .i64 d] w fun e w' => e = .returned (.tuple #[.int .i64 (undoI d).1, .bool (undoI d).2]) ∧ w = w' := by
  by_cases h : 3 ≤ d ∧ d ≤ 5
  · rw [show undoI d = (d - 3, true) by unfold undoI; rw [if_pos h]]
    obtain ⟨h1, h2⟩ := h
    go_enter Tryz.func174, Tryz.ntmps174
    go_wp2_with fail
    go_ret2
    exact ⟨rfl, rfl⟩
  · rw [show undoI d = (0, false) by unfold undoI; rw [if_neg h]]
    by_cases h1 : d < 3
    · go_enter Tryz.func174, Tryz.ntmps174
      go_wp2_with fail
      go_ret2
      exact ⟨rfl, rfl⟩
    · have h2 : 5 < d := by omega
      clear h
      go_enter Tryz.func174, Tryz.ntmps174
      go_wp2_with fail
      go_ret2
      exact ⟨rfl, rfl⟩
theorem refParty_any (d : Int) (w : World) (_hd : Mon.InR d) : Calls Tryz.prog 88 #[.int .i64 d] w fun e w' => e = .returned (.int .i64 (partyI d)) ∧ w = w' := by
  by_cases h : 0 ≤ d ∧ d < 6
  · rcases deed6 h with rfl | rfl | rfl | rfl | rfl | rfl <;>
    · go_enter Tryz.func88, Tryz.ntmps88
      go_wp2_with fail
      go_ret
      exact ⟨rfl, rfl⟩
  · have HF := Lib.hid (show partyI d = -1 by unfold partyI; rw [if_neg (by omega), if_neg (by omega), if_neg (by omega)])
    by_cases h1 : d < 0
    · go_enter Tryz.func88, Tryz.ntmps88
      go_wp2_with fail
      go_ret
      exact ⟨by rw [HF.out]; rfl, rfl⟩
    · have h2 : 5 < d := by omega
      clear h
      go_enter Tryz.func88, Tryz.ntmps88
      go_wp2_with fail
      go_ret
      exact ⟨by rw [HF.out]; rfl, rfl⟩
end Go.Proofs.YtlkncmpengpbiaaGreatDoor
