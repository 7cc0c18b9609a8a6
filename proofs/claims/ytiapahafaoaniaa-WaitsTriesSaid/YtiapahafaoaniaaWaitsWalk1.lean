/- waits.Gap, after, none; the document's Gap, near: what they compute. -/
import Derived.Test.YtiapahafaoaniaaMem
import Derived.Test.YtiapahafaoaniaaWaitsSpec
namespace Go.Proofs.Ytiapahafaoaniaa
open Go.RowKit Wa

set_option maxHeartbeats 1000000 in
theorem gap_any (t : Int) (w : World) (h1 : -9223372036854775808 ≤ t) (h2 : t ≤ 9223372036854775807) :
    Calls Try.prog 8 #[.int .i64 t] w fun e w' => e = .returned (.int .i64 (gapI t)) ∧ w = w' := by
  by_cases h : t < 1
  · have HF := Lib.hid (show gapI t = 0 by unfold gapI; rw [if_pos h])
    go_enter Try.func8, Try.ntmps8
    go_wp2_with fail
    go_ret
    exact ⟨by rw [HF.out]; rfl, rfl⟩
  · by_cases h31 : t < 32
    · have : t = 1 ∨ t = 2 ∨ t = 3 ∨ t = 4 ∨ t = 5 ∨ t = 6 ∨ t = 7 ∨ t = 8 ∨ t = 9 ∨ t = 10 ∨ t = 11 ∨ t = 12 ∨ t = 13 ∨ t = 14 ∨ t = 15 ∨ t = 16 ∨ t = 17 ∨ t = 18 ∨ t = 19 ∨ t = 20 ∨ t = 21 ∨ t = 22 ∨ t = 23 ∨ t = 24 ∨ t = 25 ∨ t = 26 ∨ t = 27 ∨ t = 28 ∨ t = 29 ∨ t = 30 ∨ t = 31 := by omega
      clear h h31 h1 h2
      rcases this with rfl | rfl | rfl | rfl | rfl | rfl | rfl | rfl | rfl | rfl | rfl | rfl | rfl | rfl | rfl | rfl | rfl | rfl | rfl | rfl | rfl | rfl | rfl | rfl | rfl | rfl | rfl | rfl | rfl | rfl | rfl
      all_goals
        go_enter Try.func8, Try.ntmps8
        go_wp2_with fail
        go_ret
        exact ⟨rfl, rfl⟩
    · have HF := Lib.hid (show gapI t = 16 by unfold gapI; repeat' split <;> omega)
      have hwr : wrap64 1073741824 = 1073741824 := by unfold wrap64; omega
      have h30 : (30 : Int) < t - 1 := by omega
      go_enter Try.func8, Try.ntmps8
      go_wp2_with fail
      go_ret
      exact ⟨by rw [HF.out]; rfl, rfl⟩

theorem after_any (now n : Int) (w : World) (h1 : 0 ≤ n) (h2 : n ≤ 16) :
    Calls Try.prog 30 #[.int .i64 now, .int .i64 n] w fun e w' => e = .returned (.int .i64 (nearI now + n)) ∧ w = w' := by
  have hb := near_bd now
  by_cases h : now < 0
  · have HF := Lib.hid (show nearI now = 0 by unfold nearI; rw [if_pos h])
    go_enter Try.func30, Try.ntmps30
    go_wp2_with fail
    go_ret
    exact ⟨by rw [HF.out, Int.zero_add]; rfl, rfl⟩
  · by_cases h3 : 1099511627776 < now
    · have HF := Lib.hid (show nearI now = 1099511627776 by unfold nearI; rw [if_neg h, if_pos h3])
      go_enter Try.func30, Try.ntmps30
      go_wp2_with fail
      go_ret
      exact ⟨by rw [HF.out]; rfl, rfl⟩
    · have HF := Lib.hid (show nearI now = now by unfold nearI; rw [if_neg h, if_neg h3])
      go_enter Try.func30, Try.ntmps30
      go_wp2_with fail
      go_ret
      exact ⟨by rw [HF.out]; rfl, rfl⟩
theorem near_any (now : Int) (w : World) :
    Calls Try.prog 35 #[.int .i64 now] w fun e w' => e = .returned (.int .i64 (nearI now)) ∧ w = w' := by
  by_cases h : now < 0
  · have HF := Lib.hid (show nearI now = 0 by unfold nearI; rw [if_pos h])
    go_enter Try.func35, Try.ntmps35
    go_wp2_with fail
    go_ret
    exact ⟨by rw [HF.out]; rfl, rfl⟩
  · by_cases h3 : 1099511627776 < now
    · have HF := Lib.hid (show nearI now = 1099511627776 by unfold nearI; rw [if_neg h, if_pos h3])
      go_enter Try.func35, Try.ntmps35
      go_wp2_with fail
      go_ret
      exact ⟨by rw [HF.out]; rfl, rfl⟩
    · have HF := Lib.hid (show nearI now = now by unfold nearI; rw [if_neg h, if_neg h3])
      go_enter Try.func35, Try.ntmps35
      go_wp2_with fail
      go_ret
      exact ⟨by rw [HF.out]; rfl, rfl⟩
set_option maxHeartbeats 1000000 in
theorem refGap_any (t : Int) (w : World) :
    Calls Try.prog 9 #[.int .i64 t] w fun e w' => e = .returned (.int .i64 (gapI t)) ∧ Below w.heap.size w w' := by
  have ha := fun o => (Below.refl w.heap.size w).alloc (Nat.le_refl _) o
  by_cases h : t < 0
  · have HF := Lib.hid (show gapI t = 0 by unfold gapI; rw [if_pos (by omega)])
    go_enter Try.func9, Try.ntmps9
    go_wp2_with fail
    go_ret
    exact ⟨by rw [HF.out]; rfl, ha _⟩
  · by_cases h5 : t < 6
    · have : t = 0 ∨ t = 1 ∨ t = 2 ∨ t = 3 ∨ t = 4 ∨ t = 5 := by omega
      clear h h5
      rcases this with rfl | rfl | rfl | rfl | rfl | rfl
      all_goals
        go_enter Try.func9, Try.ntmps9
        go_wp2_with fail
        go_ret
        exact ⟨rfl, ha _⟩
    · have HF := Lib.hid (show gapI t = 16 by unfold gapI; repeat' split <;> omega)
      have hm : (5 : Int) < t := by omega
      go_enter Try.func9, Try.ntmps9
      go_wp2_with fail
      go_ret
      exact ⟨by rw [HF.out]; rfl, ha _⟩
end Go.Proofs.Ytiapahafaoaniaa
