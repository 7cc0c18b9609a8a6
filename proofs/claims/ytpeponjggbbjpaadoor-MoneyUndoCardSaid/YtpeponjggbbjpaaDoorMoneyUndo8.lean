/- The eight ways of consignorlaw01.MoneyUndo. -/
import Derived.Test.YtpeponjggbbjpaaDoorMoneyCounted
namespace Go.Proofs.YtpeponjggbbjpaaDoor
open Go.RowKit Mon

set_option linter.unusedVariables false in
set_option maxHeartbeats 1000000 in
theorem undo_000 (a b c1 c2 c3 : Int) (w : World) (HC : Hid (Calls Tryd.prog 13 #[] w fun e w' => e = .returned (.bool true) ∧ Below w.heap.size w w'))
    (Hadd : Hid (∀ W, Calls Tryd.prog 7 #[.int .i64 a, .int .i64 b] W fun e w' => e = .returned (.tuple #[.int .i64 c1, .bool false]) ∧ W = w'))
    (Hsub : Hid (∀ W, Calls Tryd.prog 9 #[.int .i64 a, .int .i64 b] W fun e w' => e = .returned (.tuple #[.int .i64 c2, .bool false]) ∧ W = w'))
    (Hneg : Hid (∀ W, Calls Tryd.prog 11 #[.int .i64 a] W fun e w' => e = .returned (.tuple #[.int .i64 0, .bool false]) ∧ W = w'))
    (hn : (a != -9223372036854775808) = false) (a1 : -9223372036854775808 ≤ a) (a2 : a ≤ 9223372036854775807) (b1 : -9223372036854775808 ≤ b) (b2 : b ≤ 9223372036854775807)
    (hs : (0 < b ∧ 9223372036854775807 - b < a) ∨ (b < 0 ∧ a < -9223372036854775808 - b)) :
    Calls Tryd.prog 6 #[.int .i64 a, .int .i64 b] w fun e w' => e = .returned (.bool true) ∧ Below w.heap.size w w' := by
  rcases hs with ⟨h1, h2⟩ | ⟨h1, h2⟩
  all_goals
    go_enter Tryd.func6, Tryd.ntmps6
    go_wp2_with fail
    refine (Hadd.out _).mono ?_
    rintro e w0 ⟨rfl, hw⟩; obtain rfl : w = w0 := hw; go_wp2_with fail
    refine (Hsub.out _).mono ?_
    rintro e w0 ⟨rfl, hw⟩; obtain rfl : w = w0 := hw; go_wp2_with fail
    refine (Hneg.out _).mono ?_
    rintro e w0 ⟨rfl, hw⟩; obtain rfl : w = w0 := hw; go_wp2_with fail
    refine HC.out.mono ?_
    rintro e w1 ⟨rfl, hb⟩; have HBe := Lib.hid hb; clear hb; go_wp2_with fail
    go_ret
    exact ⟨rfl, HBe.out⟩
set_option linter.unusedVariables false in
set_option maxHeartbeats 1000000 in
theorem undo_001 (a b c1 c2 c3 : Int) (w : World) (HC : Hid (Calls Tryd.prog 13 #[] w fun e w' => e = .returned (.bool true) ∧ Below w.heap.size w w'))
    (Hadd : Hid (∀ W, Calls Tryd.prog 7 #[.int .i64 a, .int .i64 b] W fun e w' => e = .returned (.tuple #[.int .i64 c1, .bool false]) ∧ W = w'))
    (Hsub : Hid (∀ W, Calls Tryd.prog 9 #[.int .i64 a, .int .i64 b] W fun e w' => e = .returned (.tuple #[.int .i64 c2, .bool false]) ∧ W = w'))
    (Hneg : Hid (∀ W, Calls Tryd.prog 11 #[.int .i64 a] W fun e w' => e = .returned (.tuple #[.int .i64 (-a), .bool true]) ∧ W = w'))
    (hn : (a != -9223372036854775808) = true) (a1 : -9223372036854775807 ≤ a) (a2 : a ≤ 9223372036854775807) (b1 : -9223372036854775808 ≤ b) (b2 : b ≤ 9223372036854775807)
    (hs : (0 < b ∧ 9223372036854775807 - b < a) ∨ (b < 0 ∧ a < -9223372036854775808 - b)) :
    Calls Tryd.prog 6 #[.int .i64 a, .int .i64 b] w fun e w' => e = .returned (.bool true) ∧ Below w.heap.size w w' := by
  rcases hs with ⟨h1, h2⟩ | ⟨h1, h2⟩
  all_goals
    go_enter Tryd.func6, Tryd.ntmps6
    go_wp2_with fail
    refine (Hadd.out _).mono ?_
    rintro e w0 ⟨rfl, hw⟩; obtain rfl : w = w0 := hw; go_wp2_with fail
    refine (Hsub.out _).mono ?_
    rintro e w0 ⟨rfl, hw⟩; obtain rfl : w = w0 := hw; go_wp2_with fail
    refine (Hneg.out _).mono ?_
    rintro e w0 ⟨rfl, hw⟩; obtain rfl : w = w0 := hw; go_wp2_with fail
    refine HC.out.mono ?_
    rintro e w1 ⟨rfl, hb⟩; have HBe := Lib.hid hb; clear hb; go_wp2_with fail
    go_ret
    exact ⟨rfl, HBe.out⟩
set_option linter.unusedVariables false in
set_option maxHeartbeats 1000000 in
theorem undo_010 (a b c1 c2 c3 : Int) (w : World) (HC : Hid (Calls Tryd.prog 13 #[] w fun e w' => e = .returned (.bool true) ∧ Below w.heap.size w w'))
    (Hadd : Hid (∀ W, Calls Tryd.prog 7 #[.int .i64 a, .int .i64 b] W fun e w' => e = .returned (.tuple #[.int .i64 c1, .bool false]) ∧ W = w'))
    (Hsub : Hid (∀ W, Calls Tryd.prog 9 #[.int .i64 a, .int .i64 b] W fun e w' => e = .returned (.tuple #[.int .i64 (a - b), .bool true]) ∧ W = w'))
    (Hneg : Hid (∀ W, Calls Tryd.prog 11 #[.int .i64 a] W fun e w' => e = .returned (.tuple #[.int .i64 0, .bool false]) ∧ W = w'))
    (HS2 : Hid (∀ W, Calls Tryd.prog 7 #[.int .i64 (a - b), .int .i64 b] W fun e w' => e = .returned (.tuple #[.int .i64 a, .bool true]) ∧ W = w'))
    (hn : (a != -9223372036854775808) = false) (a1 : -9223372036854775808 ≤ a) (a2 : a ≤ 9223372036854775807) (b1 : -9223372036854775808 ≤ b) (b2 : b ≤ 9223372036854775807)
    (hs : (0 < b ∧ 9223372036854775807 - b < a) ∨ (b < 0 ∧ a < -9223372036854775808 - b)) :
    Calls Tryd.prog 6 #[.int .i64 a, .int .i64 b] w fun e w' => e = .returned (.bool true) ∧ Below w.heap.size w w' := by
  rcases hs with ⟨h1, h2⟩ | ⟨h1, h2⟩
  all_goals
    go_enter Tryd.func6, Tryd.ntmps6
    go_wp2_with fail
    refine (Hadd.out _).mono ?_
    rintro e w0 ⟨rfl, hw⟩; obtain rfl : w = w0 := hw; go_wp2_with fail
    refine (Hsub.out _).mono ?_
    rintro e w0 ⟨rfl, hw⟩; obtain rfl : w = w0 := hw; go_wp2_with fail
    refine (HS2.out _).mono ?_
    rintro e w0 ⟨rfl, hw⟩; obtain rfl : w = w0 := hw; go_wp2_with fail
    refine (Hneg.out _).mono ?_
    rintro e w0 ⟨rfl, hw⟩; obtain rfl : w = w0 := hw; go_wp2_with fail
    refine HC.out.mono ?_
    rintro e w1 ⟨rfl, hb⟩; have HBe := Lib.hid hb; clear hb; go_wp2_with fail
    go_ret
    exact ⟨rfl, HBe.out⟩
set_option linter.unusedVariables false in
set_option maxHeartbeats 1000000 in
theorem undo_011 (a b c1 c2 c3 : Int) (w : World) (HC : Hid (Calls Tryd.prog 13 #[] w fun e w' => e = .returned (.bool true) ∧ Below w.heap.size w w'))
    (Hadd : Hid (∀ W, Calls Tryd.prog 7 #[.int .i64 a, .int .i64 b] W fun e w' => e = .returned (.tuple #[.int .i64 c1, .bool false]) ∧ W = w'))
    (Hsub : Hid (∀ W, Calls Tryd.prog 9 #[.int .i64 a, .int .i64 b] W fun e w' => e = .returned (.tuple #[.int .i64 (a - b), .bool true]) ∧ W = w'))
    (Hneg : Hid (∀ W, Calls Tryd.prog 11 #[.int .i64 a] W fun e w' => e = .returned (.tuple #[.int .i64 (-a), .bool true]) ∧ W = w'))
    (HS2 : Hid (∀ W, Calls Tryd.prog 7 #[.int .i64 (a - b), .int .i64 b] W fun e w' => e = .returned (.tuple #[.int .i64 a, .bool true]) ∧ W = w'))
    (hn : (a != -9223372036854775808) = true) (a1 : -9223372036854775807 ≤ a) (a2 : a ≤ 9223372036854775807) (b1 : -9223372036854775808 ≤ b) (b2 : b ≤ 9223372036854775807)
    (hs : (0 < b ∧ 9223372036854775807 - b < a) ∨ (b < 0 ∧ a < -9223372036854775808 - b)) :
    Calls Tryd.prog 6 #[.int .i64 a, .int .i64 b] w fun e w' => e = .returned (.bool true) ∧ Below w.heap.size w w' := by
  rcases hs with ⟨h1, h2⟩ | ⟨h1, h2⟩
  all_goals
    go_enter Tryd.func6, Tryd.ntmps6
    go_wp2_with fail
    refine (Hadd.out _).mono ?_
    rintro e w0 ⟨rfl, hw⟩; obtain rfl : w = w0 := hw; go_wp2_with fail
    refine (Hsub.out _).mono ?_
    rintro e w0 ⟨rfl, hw⟩; obtain rfl : w = w0 := hw; go_wp2_with fail
    refine (HS2.out _).mono ?_
    rintro e w0 ⟨rfl, hw⟩; obtain rfl : w = w0 := hw; go_wp2_with fail
    refine (Hneg.out _).mono ?_
    rintro e w0 ⟨rfl, hw⟩; obtain rfl : w = w0 := hw; go_wp2_with fail
    refine HC.out.mono ?_
    rintro e w1 ⟨rfl, hb⟩; have HBe := Lib.hid hb; clear hb; go_wp2_with fail
    go_ret
    exact ⟨rfl, HBe.out⟩
set_option linter.unusedVariables false in
set_option maxHeartbeats 1000000 in
theorem undo_100 (a b c1 c2 c3 : Int) (w : World) (HC : Hid (Calls Tryd.prog 13 #[] w fun e w' => e = .returned (.bool true) ∧ Below w.heap.size w w'))
    (Hadd : Hid (∀ W, Calls Tryd.prog 7 #[.int .i64 a, .int .i64 b] W fun e w' => e = .returned (.tuple #[.int .i64 (a + b), .bool true]) ∧ W = w'))
    (Hsub : Hid (∀ W, Calls Tryd.prog 9 #[.int .i64 a, .int .i64 b] W fun e w' => e = .returned (.tuple #[.int .i64 c2, .bool false]) ∧ W = w'))
    (Hneg : Hid (∀ W, Calls Tryd.prog 11 #[.int .i64 a] W fun e w' => e = .returned (.tuple #[.int .i64 0, .bool false]) ∧ W = w'))
    (HS1 : Hid (∀ W, Calls Tryd.prog 9 #[.int .i64 (a + b), .int .i64 b] W fun e w' => e = .returned (.tuple #[.int .i64 a, .bool true]) ∧ W = w'))
    (hn : (a != -9223372036854775808) = false) (a1 : -9223372036854775808 ≤ a) (a2 : a ≤ 9223372036854775807) (b1 : -9223372036854775808 ≤ b) (b2 : b ≤ 9223372036854775807)
    (hs : (b = 0 ∨ (0 < b ∧ ¬ 9223372036854775807 - b < a) ∨ (b < 0 ∧ ¬ a < -9223372036854775808 - b))) :
    Calls Tryd.prog 6 #[.int .i64 a, .int .i64 b] w fun e w' => e = .returned (.bool true) ∧ Below w.heap.size w w' := by
  rcases hs with h0 | ⟨h1, h2⟩ | ⟨h1, h2⟩
  · have h3 : ¬ 0 < b := by omega
    have h4 : ¬ b < 0 := by omega
    clear h0
    go_enter Tryd.func6, Tryd.ntmps6
    go_wp2_with fail
    refine (Hadd.out _).mono ?_
    rintro e w0 ⟨rfl, hw⟩; obtain rfl : w = w0 := hw; go_wp2_with fail
    refine (HS1.out _).mono ?_
    rintro e w0 ⟨rfl, hw⟩; obtain rfl : w = w0 := hw; go_wp2_with fail
    refine (Hsub.out _).mono ?_
    rintro e w0 ⟨rfl, hw⟩; obtain rfl : w = w0 := hw; go_wp2_with fail
    refine (Hneg.out _).mono ?_
    rintro e w0 ⟨rfl, hw⟩; obtain rfl : w = w0 := hw; go_wp2_with fail
    refine HC.out.mono ?_
    rintro e w1 ⟨rfl, hb⟩; have HBe := Lib.hid hb; clear hb; go_wp2_with fail
    go_ret
    exact ⟨rfl, HBe.out⟩
  all_goals
    go_enter Tryd.func6, Tryd.ntmps6
    go_wp2_with fail
    refine (Hadd.out _).mono ?_
    rintro e w0 ⟨rfl, hw⟩; obtain rfl : w = w0 := hw; go_wp2_with fail
    refine (HS1.out _).mono ?_
    rintro e w0 ⟨rfl, hw⟩; obtain rfl : w = w0 := hw; go_wp2_with fail
    refine (Hsub.out _).mono ?_
    rintro e w0 ⟨rfl, hw⟩; obtain rfl : w = w0 := hw; go_wp2_with fail
    refine (Hneg.out _).mono ?_
    rintro e w0 ⟨rfl, hw⟩; obtain rfl : w = w0 := hw; go_wp2_with fail
    refine HC.out.mono ?_
    rintro e w1 ⟨rfl, hb⟩; have HBe := Lib.hid hb; clear hb; go_wp2_with fail
    go_ret
    exact ⟨rfl, HBe.out⟩
set_option linter.unusedVariables false in
set_option maxHeartbeats 1000000 in
theorem undo_101 (a b c1 c2 c3 : Int) (w : World) (HC : Hid (Calls Tryd.prog 13 #[] w fun e w' => e = .returned (.bool true) ∧ Below w.heap.size w w'))
    (Hadd : Hid (∀ W, Calls Tryd.prog 7 #[.int .i64 a, .int .i64 b] W fun e w' => e = .returned (.tuple #[.int .i64 (a + b), .bool true]) ∧ W = w'))
    (Hsub : Hid (∀ W, Calls Tryd.prog 9 #[.int .i64 a, .int .i64 b] W fun e w' => e = .returned (.tuple #[.int .i64 c2, .bool false]) ∧ W = w'))
    (Hneg : Hid (∀ W, Calls Tryd.prog 11 #[.int .i64 a] W fun e w' => e = .returned (.tuple #[.int .i64 (-a), .bool true]) ∧ W = w'))
    (HS1 : Hid (∀ W, Calls Tryd.prog 9 #[.int .i64 (a + b), .int .i64 b] W fun e w' => e = .returned (.tuple #[.int .i64 a, .bool true]) ∧ W = w'))
    (hn : (a != -9223372036854775808) = true) (a1 : -9223372036854775807 ≤ a) (a2 : a ≤ 9223372036854775807) (b1 : -9223372036854775808 ≤ b) (b2 : b ≤ 9223372036854775807)
    (hs : (b = 0 ∨ (0 < b ∧ ¬ 9223372036854775807 - b < a) ∨ (b < 0 ∧ ¬ a < -9223372036854775808 - b))) :
    Calls Tryd.prog 6 #[.int .i64 a, .int .i64 b] w fun e w' => e = .returned (.bool true) ∧ Below w.heap.size w w' := by
  rcases hs with h0 | ⟨h1, h2⟩ | ⟨h1, h2⟩
  · have h3 : ¬ 0 < b := by omega
    have h4 : ¬ b < 0 := by omega
    clear h0
    go_enter Tryd.func6, Tryd.ntmps6
    go_wp2_with fail
    refine (Hadd.out _).mono ?_
    rintro e w0 ⟨rfl, hw⟩; obtain rfl : w = w0 := hw; go_wp2_with fail
    refine (HS1.out _).mono ?_
    rintro e w0 ⟨rfl, hw⟩; obtain rfl : w = w0 := hw; go_wp2_with fail
    refine (Hsub.out _).mono ?_
    rintro e w0 ⟨rfl, hw⟩; obtain rfl : w = w0 := hw; go_wp2_with fail
    refine (Hneg.out _).mono ?_
    rintro e w0 ⟨rfl, hw⟩; obtain rfl : w = w0 := hw; go_wp2_with fail
    refine HC.out.mono ?_
    rintro e w1 ⟨rfl, hb⟩; have HBe := Lib.hid hb; clear hb; go_wp2_with fail
    go_ret
    exact ⟨rfl, HBe.out⟩
  all_goals
    go_enter Tryd.func6, Tryd.ntmps6
    go_wp2_with fail
    refine (Hadd.out _).mono ?_
    rintro e w0 ⟨rfl, hw⟩; obtain rfl : w = w0 := hw; go_wp2_with fail
    refine (HS1.out _).mono ?_
    rintro e w0 ⟨rfl, hw⟩; obtain rfl : w = w0 := hw; go_wp2_with fail
    refine (Hsub.out _).mono ?_
    rintro e w0 ⟨rfl, hw⟩; obtain rfl : w = w0 := hw; go_wp2_with fail
    refine (Hneg.out _).mono ?_
    rintro e w0 ⟨rfl, hw⟩; obtain rfl : w = w0 := hw; go_wp2_with fail
    refine HC.out.mono ?_
    rintro e w1 ⟨rfl, hb⟩; have HBe := Lib.hid hb; clear hb; go_wp2_with fail
    go_ret
    exact ⟨rfl, HBe.out⟩
set_option linter.unusedVariables false in
set_option maxHeartbeats 1000000 in
theorem undo_110 (a b c1 c2 c3 : Int) (w : World) (HC : Hid (Calls Tryd.prog 13 #[] w fun e w' => e = .returned (.bool true) ∧ Below w.heap.size w w'))
    (Hadd : Hid (∀ W, Calls Tryd.prog 7 #[.int .i64 a, .int .i64 b] W fun e w' => e = .returned (.tuple #[.int .i64 (a + b), .bool true]) ∧ W = w'))
    (Hsub : Hid (∀ W, Calls Tryd.prog 9 #[.int .i64 a, .int .i64 b] W fun e w' => e = .returned (.tuple #[.int .i64 (a - b), .bool true]) ∧ W = w'))
    (Hneg : Hid (∀ W, Calls Tryd.prog 11 #[.int .i64 a] W fun e w' => e = .returned (.tuple #[.int .i64 0, .bool false]) ∧ W = w'))
    (HS1 : Hid (∀ W, Calls Tryd.prog 9 #[.int .i64 (a + b), .int .i64 b] W fun e w' => e = .returned (.tuple #[.int .i64 a, .bool true]) ∧ W = w'))
    (HS2 : Hid (∀ W, Calls Tryd.prog 7 #[.int .i64 (a - b), .int .i64 b] W fun e w' => e = .returned (.tuple #[.int .i64 a, .bool true]) ∧ W = w'))
    (hn : (a != -9223372036854775808) = false) (a1 : -9223372036854775808 ≤ a) (a2 : a ≤ 9223372036854775807) (b1 : -9223372036854775808 ≤ b) (b2 : b ≤ 9223372036854775807)
    (hs : (b = 0 ∨ (0 < b ∧ ¬ 9223372036854775807 - b < a) ∨ (b < 0 ∧ ¬ a < -9223372036854775808 - b))) :
    Calls Tryd.prog 6 #[.int .i64 a, .int .i64 b] w fun e w' => e = .returned (.bool true) ∧ Below w.heap.size w w' := by
  rcases hs with h0 | ⟨h1, h2⟩ | ⟨h1, h2⟩
  · have h3 : ¬ 0 < b := by omega
    have h4 : ¬ b < 0 := by omega
    clear h0
    go_enter Tryd.func6, Tryd.ntmps6
    go_wp2_with fail
    refine (Hadd.out _).mono ?_
    rintro e w0 ⟨rfl, hw⟩; obtain rfl : w = w0 := hw; go_wp2_with fail
    refine (HS1.out _).mono ?_
    rintro e w0 ⟨rfl, hw⟩; obtain rfl : w = w0 := hw; go_wp2_with fail
    refine (Hsub.out _).mono ?_
    rintro e w0 ⟨rfl, hw⟩; obtain rfl : w = w0 := hw; go_wp2_with fail
    refine (HS2.out _).mono ?_
    rintro e w0 ⟨rfl, hw⟩; obtain rfl : w = w0 := hw; go_wp2_with fail
    refine (Hneg.out _).mono ?_
    rintro e w0 ⟨rfl, hw⟩; obtain rfl : w = w0 := hw; go_wp2_with fail
    refine HC.out.mono ?_
    rintro e w1 ⟨rfl, hb⟩; have HBe := Lib.hid hb; clear hb; go_wp2_with fail
    go_ret
    exact ⟨rfl, HBe.out⟩
  all_goals
    go_enter Tryd.func6, Tryd.ntmps6
    go_wp2_with fail
    refine (Hadd.out _).mono ?_
    rintro e w0 ⟨rfl, hw⟩; obtain rfl : w = w0 := hw; go_wp2_with fail
    refine (HS1.out _).mono ?_
    rintro e w0 ⟨rfl, hw⟩; obtain rfl : w = w0 := hw; go_wp2_with fail
    refine (Hsub.out _).mono ?_
    rintro e w0 ⟨rfl, hw⟩; obtain rfl : w = w0 := hw; go_wp2_with fail
    refine (HS2.out _).mono ?_
    rintro e w0 ⟨rfl, hw⟩; obtain rfl : w = w0 := hw; go_wp2_with fail
    refine (Hneg.out _).mono ?_
    rintro e w0 ⟨rfl, hw⟩; obtain rfl : w = w0 := hw; go_wp2_with fail
    refine HC.out.mono ?_
    rintro e w1 ⟨rfl, hb⟩; have HBe := Lib.hid hb; clear hb; go_wp2_with fail
    go_ret
    exact ⟨rfl, HBe.out⟩
set_option linter.unusedVariables false in
set_option maxHeartbeats 1000000 in
theorem undo_111 (a b c1 c2 c3 : Int) (w : World) (HC : Hid (Calls Tryd.prog 13 #[] w fun e w' => e = .returned (.bool true) ∧ Below w.heap.size w w'))
    (Hadd : Hid (∀ W, Calls Tryd.prog 7 #[.int .i64 a, .int .i64 b] W fun e w' => e = .returned (.tuple #[.int .i64 (a + b), .bool true]) ∧ W = w'))
    (Hsub : Hid (∀ W, Calls Tryd.prog 9 #[.int .i64 a, .int .i64 b] W fun e w' => e = .returned (.tuple #[.int .i64 (a - b), .bool true]) ∧ W = w'))
    (Hneg : Hid (∀ W, Calls Tryd.prog 11 #[.int .i64 a] W fun e w' => e = .returned (.tuple #[.int .i64 (-a), .bool true]) ∧ W = w'))
    (HS1 : Hid (∀ W, Calls Tryd.prog 9 #[.int .i64 (a + b), .int .i64 b] W fun e w' => e = .returned (.tuple #[.int .i64 a, .bool true]) ∧ W = w'))
    (HS2 : Hid (∀ W, Calls Tryd.prog 7 #[.int .i64 (a - b), .int .i64 b] W fun e w' => e = .returned (.tuple #[.int .i64 a, .bool true]) ∧ W = w'))
    (hn : (a != -9223372036854775808) = true) (a1 : -9223372036854775807 ≤ a) (a2 : a ≤ 9223372036854775807) (b1 : -9223372036854775808 ≤ b) (b2 : b ≤ 9223372036854775807)
    (hs : (b = 0 ∨ (0 < b ∧ ¬ 9223372036854775807 - b < a) ∨ (b < 0 ∧ ¬ a < -9223372036854775808 - b))) :
    Calls Tryd.prog 6 #[.int .i64 a, .int .i64 b] w fun e w' => e = .returned (.bool true) ∧ Below w.heap.size w w' := by
  rcases hs with h0 | ⟨h1, h2⟩ | ⟨h1, h2⟩
  · have h3 : ¬ 0 < b := by omega
    have h4 : ¬ b < 0 := by omega
    clear h0
    go_enter Tryd.func6, Tryd.ntmps6
    go_wp2_with fail
    refine (Hadd.out _).mono ?_
    rintro e w0 ⟨rfl, hw⟩; obtain rfl : w = w0 := hw; go_wp2_with fail
    refine (HS1.out _).mono ?_
    rintro e w0 ⟨rfl, hw⟩; obtain rfl : w = w0 := hw; go_wp2_with fail
    refine (Hsub.out _).mono ?_
    rintro e w0 ⟨rfl, hw⟩; obtain rfl : w = w0 := hw; go_wp2_with fail
    refine (HS2.out _).mono ?_
    rintro e w0 ⟨rfl, hw⟩; obtain rfl : w = w0 := hw; go_wp2_with fail
    refine (Hneg.out _).mono ?_
    rintro e w0 ⟨rfl, hw⟩; obtain rfl : w = w0 := hw; go_wp2_with fail
    refine HC.out.mono ?_
    rintro e w1 ⟨rfl, hb⟩; have HBe := Lib.hid hb; clear hb; go_wp2_with fail
    go_ret
    exact ⟨rfl, HBe.out⟩
  all_goals
    go_enter Tryd.func6, Tryd.ntmps6
    go_wp2_with fail
    refine (Hadd.out _).mono ?_
    rintro e w0 ⟨rfl, hw⟩; obtain rfl : w = w0 := hw; go_wp2_with fail
    refine (HS1.out _).mono ?_
    rintro e w0 ⟨rfl, hw⟩; obtain rfl : w = w0 := hw; go_wp2_with fail
    refine (Hsub.out _).mono ?_
    rintro e w0 ⟨rfl, hw⟩; obtain rfl : w = w0 := hw; go_wp2_with fail
    refine (HS2.out _).mono ?_
    rintro e w0 ⟨rfl, hw⟩; obtain rfl : w = w0 := hw; go_wp2_with fail
    refine (Hneg.out _).mono ?_
    rintro e w0 ⟨rfl, hw⟩; obtain rfl : w = w0 := hw; go_wp2_with fail
    refine HC.out.mono ?_
    rintro e w1 ⟨rfl, hb⟩; have HBe := Lib.hid hb; clear hb; go_wp2_with fail
    go_ret
    exact ⟨rfl, HBe.out⟩
end Go.Proofs.YtpeponjggbbjpaaDoor
