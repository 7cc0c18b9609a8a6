/- keys.is, Check, Less; the document's Check, Less: what they compute. -/
import Derived.Test.YtiagdpfmmjhgcaaGreatDoorMem
import Derived.Test.YtiagdpfmmjhgcaaGreatDoorKeysSpec
namespace Go.Proofs.YtiagdpfmmjhgcaaGreatDoor
open Go.RowKit Key

def isK (d : Int) : Bool := decide (0 ≤ d ∧ d < 6)
def keyV (o d : Int) : Value := .agg #[.int .i64 o, .int .i64 d]
theorem below_alloc (w : World) (o : Obj) : Below w.heap.size w (w.alloc o) := (Below.refl _ _).alloc (Nat.le_refl _) _
theorem is_call (d : Int) (w : World) : Calls Tryz.prog 107 #[.int .i64 d] w fun e w' => e = .returned (.bool (isK d)) ∧ w = w' := by
  by_cases h1 : 0 ≤ d
  · by_cases h2 : d < 6
    · have HF := Lib.hid (show isK d = true by unfold isK; simp; omega)
      go_enter Tryz.func107, Tryz.ntmps107
      go_wp2_with fail
      go_ret
      exact ⟨by rw [HF.out]; rfl, rfl⟩
    · have HF := Lib.hid (show isK d = false by unfold isK; simp; omega)
      go_enter Tryz.func107, Tryz.ntmps107
      go_wp2_with fail
      go_ret
      exact ⟨by rw [HF.out]; rfl, rfl⟩
  · have HF := Lib.hid (show isK d = false by unfold isK; simp; omega)
    go_enter Tryz.func107, Tryz.ntmps107
    go_wp2_with fail
    go_ret
    exact ⟨by rw [HF.out]; rfl, rfl⟩

theorem check_any (o d : Int) (w : World) : Calls Tryz.prog 83 #[.agg #[.int .i64 o, .int .i64 d]] w fun e w' => e = .returned (.bool (chk o d)) ∧ Below w.heap.size w w' := by
  have HI := Lib.hid (is_call d)
  by_cases h1 : 1 ≤ o
  · by_cases h2 : o ≤ 60
    · have HF := Lib.hid (show chk o d = isK d by unfold chk isK; simp [h1, h2])
      go_enter Tryz.func83, Tryz.ntmps83
      go_wp2_with fail
      refine (HI.out _).mono ?_
      rintro e w1 ⟨rfl, hw⟩
      subst hw
      go_wp2_with fail
      go_ret
      exact ⟨by rw [HF.out]; rfl, below_alloc _ _⟩
    · have HF := Lib.hid (show chk o d = false by unfold chk; simp; omega)
      go_enter Tryz.func83, Tryz.ntmps83
      go_wp2_with fail
      go_ret
      exact ⟨by rw [HF.out]; rfl, below_alloc _ _⟩
  · have HF := Lib.hid (show chk o d = false by unfold chk; simp; omega)
    go_enter Tryz.func83, Tryz.ntmps83
    go_wp2_with fail
    go_ret
    exact ⟨by rw [HF.out]; rfl, below_alloc _ _⟩
theorem less_any (a b c d : Int) (w : World) : Calls Tryz.prog 100 #[.agg #[.int .i64 a, .int .i64 b], .agg #[.int .i64 c, .int .i64 d]] w fun e w' => e = .returned (.bool (lessB a b c d)) ∧ Below w.heap.size w w' := by
  by_cases h : a = c
  · by_cases h2 : b < d
    · have HF := Lib.hid (show lessB a b c d = true by unfold lessB; simp; omega)
      have hb := beqT h
      have hb2 := bneF h
      have hl : ¬ a < c := by omega
      clear h
      go_enter Tryz.func100, Tryz.ntmps100
      go_wp2_with fail
      go_ret
      exact ⟨by rw [HF.out]; rfl, ((Below.refl _ _).alloc (Nat.le_refl _) _).alloc (by simp) _⟩
    · have HF := Lib.hid (show lessB a b c d = false by unfold lessB; simp; omega)
      have hb := beqT h
      have hb2 := bneF h
      have hl : ¬ a < c := by omega
      clear h
      go_enter Tryz.func100, Tryz.ntmps100
      go_wp2_with fail
      go_ret
      exact ⟨by rw [HF.out]; rfl, ((Below.refl _ _).alloc (Nat.le_refl _) _).alloc (by simp) _⟩
  · by_cases h2 : a < c
    · have HF := Lib.hid (show lessB a b c d = true by unfold lessB; simp; omega)
      have hb := beqF h
      have hb2 := bneT h
      go_enter Tryz.func100, Tryz.ntmps100
      go_wp2_with fail
      go_ret
      exact ⟨by rw [HF.out]; rfl, ((Below.refl _ _).alloc (Nat.le_refl _) _).alloc (by simp) _⟩
    · have HF := Lib.hid (show lessB a b c d = false by unfold lessB; simp; omega)
      have hb := beqF h
      have hb2 := bneT h
      go_enter Tryz.func100, Tryz.ntmps100
      go_wp2_with fail
      go_ret
      exact ⟨by rw [HF.out]; rfl, ((Below.refl _ _).alloc (Nat.le_refl _) _).alloc (by simp) _⟩
theorem refLess_any (a b c d : Int) (w : World) : Calls Tryz.prog 113 #[.agg #[.int .i64 a, .int .i64 b], .agg #[.int .i64 c, .int .i64 d]] w fun e w' => e = .returned (.bool (lessB a b c d)) ∧ Below w.heap.size w w' := by
  by_cases h : a = c
  · by_cases h2 : b < d
    · have HF := Lib.hid (show lessB a b c d = true by unfold lessB; simp; omega)
      have hb := beqT h
      have hb2 := bneF h
      have hl : ¬ a < c := by omega
      clear h
      go_enter Tryz.func113, Tryz.ntmps113
      go_wp2_with fail
      go_ret
      exact ⟨by rw [HF.out]; rfl, ((Below.refl _ _).alloc (Nat.le_refl _) _).alloc (by simp) _⟩
    · have HF := Lib.hid (show lessB a b c d = false by unfold lessB; simp; omega)
      have hb := beqT h
      have hb2 := bneF h
      have hl : ¬ a < c := by omega
      clear h
      go_enter Tryz.func113, Tryz.ntmps113
      go_wp2_with fail
      go_ret
      exact ⟨by rw [HF.out]; rfl, ((Below.refl _ _).alloc (Nat.le_refl _) _).alloc (by simp) _⟩
  · by_cases h2 : a < c
    · have HF := Lib.hid (show lessB a b c d = true by unfold lessB; simp; omega)
      have hb := beqF h
      have hb2 := bneT h
      go_enter Tryz.func113, Tryz.ntmps113
      go_wp2_with fail
      go_ret
      exact ⟨by rw [HF.out]; rfl, ((Below.refl _ _).alloc (Nat.le_refl _) _).alloc (by simp) _⟩
    · have HF := Lib.hid (show lessB a b c d = false by unfold lessB; simp; omega)
      have hb := beqF h
      have hb2 := bneT h
      go_enter Tryz.func113, Tryz.ntmps113
      go_wp2_with fail
      go_ret
      exact ⟨by rw [HF.out]; rfl, ((Below.refl _ _).alloc (Nat.le_refl _) _).alloc (by simp) _⟩
theorem refCheck_any (o d : Int) (w : World) : Calls Tryz.prog 90 #[.agg #[.int .i64 o, .int .i64 d]] w fun e w' => e = .returned (.bool (chk o d)) ∧ Below w.heap.size w w' := by
  by_cases h1 : 0 < o
  · by_cases h2 : o < 61
    · by_cases h3 : 0 ≤ d
      · by_cases h4 : d < 6
        · have HF := Lib.hid (show chk o d = true by unfold chk; simp; omega)
          go_enter Tryz.func90, Tryz.ntmps90
          go_wp2_with fail
          go_ret
          exact ⟨by rw [HF.out]; rfl, below_alloc _ _⟩
        · have HF := Lib.hid (show chk o d = false by unfold chk; simp; omega)
          go_enter Tryz.func90, Tryz.ntmps90
          go_wp2_with fail
          go_ret
          exact ⟨by rw [HF.out]; rfl, below_alloc _ _⟩
      · have HF := Lib.hid (show chk o d = false by unfold chk; simp; omega)
        go_enter Tryz.func90, Tryz.ntmps90
        go_wp2_with fail
        go_ret
        exact ⟨by rw [HF.out]; rfl, below_alloc _ _⟩
    · have HF := Lib.hid (show chk o d = false by unfold chk; simp; omega)
      go_enter Tryz.func90, Tryz.ntmps90
      go_wp2_with fail
      go_ret
      exact ⟨by rw [HF.out]; rfl, below_alloc _ _⟩
  · have HF := Lib.hid (show chk o d = false by unfold chk; simp; omega)
    go_enter Tryz.func90, Tryz.ntmps90
    go_wp2_with fail
    go_ret
    exact ⟨by rw [HF.out]; rfl, below_alloc _ _⟩
end Go.Proofs.YtiagdpfmmjhgcaaGreatDoor
