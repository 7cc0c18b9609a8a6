/- The ways of consignorlaw10.KeysBack: keys of one order, one key. -/
import Derived.Test.YtnakicbdljffeaaDoorKeysLawTell
namespace Go.Proofs.YtnakicbdljffeaaDoor
open Go.RowKit Key Mon

set_option linter.unusedVariables false in
set_option maxHeartbeats 4000000 in
theorem back_n2_ttt (ao ad bd : Int) (L1 L2 : List UInt8)  (w : World) (HK : Hid (KW w))
    (H1 : Hid (∀ W, KW W → Calls Tryd.prog 15 #[.agg #[.int .i64 ao, .int .i64 ad]] W fun e w' => e = .returned (.string ⟨L1.toArray⟩) ∧ Below W.heap.size W w'))
    (H2 : Hid (∀ W, KW W → Calls Tryd.prog 15 #[.agg #[.int .i64 ao, .int .i64 bd]] W fun e w' => e = .returned (.string ⟨L2.toArray⟩) ∧ Below W.heap.size W w'))
    (H3 : Hid (∀ W, Calls Tryd.prog 13 #[.agg #[.int .i64 ao, .int .i64 ad]] W fun e w' => e = .returned (.bool true) ∧ Below W.heap.size W w'))
    (H4 : Hid (∀ W, Calls Tryd.prog 13 #[.agg #[.int .i64 ao, .int .i64 bd]] W fun e w' => e = .returned (.bool true) ∧ Below W.heap.size W w'))
    (H5 : Hid (∀ W, KW W → Calls Tryd.prog 23 #[.string ⟨L1.toArray⟩, .agg #[.int .i64 ao, .int .i64 ad], .bool true] W fun e w' => e = .returned (.bool true) ∧ Below W.heap.size W w'))
    (H6 : Hid (∀ W, Calls Tryd.prog 17 #[.agg #[.int .i64 ao, .int .i64 ad], .agg #[.int .i64 ao, .int .i64 bd]] W fun e w' => e = .returned (.bool true) ∧ Below W.heap.size W w'))
    (H7 : Hid (∀ W, Calls Tryd.prog 17 #[.agg #[.int .i64 ao, .int .i64 bd], .agg #[.int .i64 ao, .int .i64 ad]] W fun e w' => e = .returned (.bool false) ∧ Below W.heap.size W w'))
    (H8 : Hid (∀ W, Calls Tryd.prog 17 #[.agg #[.int .i64 ao, .int .i64 ad], .agg #[.int .i64 ao, .int .i64 ad]] W fun e w' => e = .returned (.bool false) ∧ Below W.heap.size W w'))
    (hL1 : L1.isEmpty = false) (hLL : (L1 == L2) = false) (hne : ¬ ad = bd) :
    Calls Tryd.prog 5 #[.agg #[.int .i64 ao, .int .i64 ad], .agg #[.int .i64 ao, .int .i64 bd]] w fun e w' => e = .returned (.bool true) ∧ Below w.heap.size w w' := by
  go_enter Tryd.func5, Tryd.ntmps5
  go_wp2_with fail
  have HB0 := Lib.hid (show Below w.heap.size w ((w.alloc (.cells #[.int .i64 ao, .int .i64 ad] 23)).alloc (.cells #[.int .i64 ao, .int .i64 bd] 23)) from (below_alloc w _).alloc (by simp) _)
  have HA1 := Lib.hid (show ((w.alloc (.cells #[.int .i64 ao, .int .i64 ad] 23)).alloc (.cells #[.int .i64 ao, .int .i64 bd] 23)).heap[w.heap.size]? = some (.cells #[.int .i64 ao, .int .i64 ad] 23 (0, 0)) from heap_keep (heap_new w _) (below_alloc _ _))
  have HA2 := Lib.hid (show ((w.alloc (.cells #[.int .i64 ao, .int .i64 ad] 23)).alloc (.cells #[.int .i64 ao, .int .i64 bd] 23)).heap[w.heap.size + 1]? = some (.cells #[.int .i64 ao, .int .i64 bd] 23 (0, 0)) from by
    have := heap_new (w.alloc (.cells #[.int .i64 ao, .int .i64 ad] 23)) (.cells #[.int .i64 ao, .int .i64 bd] 23)
    rw [show (w.alloc (.cells #[.int .i64 ao, .int .i64 ad] 23)).heap.size = w.heap.size + 1 by simp] at this
    exact this)
  generalize ((w.alloc (.cells #[.int .i64 ao, .int .i64 ad] 23)).alloc (.cells #[.int .i64 ao, .int .i64 bd] 23)) = wr at HB0 HA1 HA2 ⊢
  obtain ⟨a0, a1, _, _⟩ := cell2 HA1.out
  obtain ⟨b0, b1, _, _⟩ := cell2 HA2.out
  go_region_held3 (fun w' => Hid (Below w.heap.size w w') ∧ w'.cell? ⟨w.heap.size, 0, none⟩ = some (.int .i64 ao) ∧ w'.cell? ⟨w.heap.size, 1, none⟩ = some (.int .i64 ad) ∧ w'.cell? ⟨w.heap.size + 1, 0, none⟩ = some (.int .i64 ao) ∧ w'.cell? ⟨w.heap.size + 1, 1, none⟩ = some (.int .i64 bd))
    (first
      | exact keep4 hb (by assumption)
      | exact ⟨belowD HB0.out, a0, a1, b0, b1⟩)
    (first
      | (go_at_call_of 15 (Value.agg #[.int .i64 ao, .int .i64 ad]); refine (H1.out _ (HK.out.below (Hid.out (And.left (by assumption))))).mono ?_; rintro e w1 ⟨rfl, hb⟩)
      | (go_at_call_of 15 (Value.agg #[.int .i64 ao, .int .i64 bd]); refine (H2.out _ (HK.out.below (Hid.out (And.left (by assumption))))).mono ?_; rintro e w1 ⟨rfl, hb⟩))
  all_goals go_wp2_with (first
    | (go_at_call_of 13 (Value.agg #[.int .i64 ao, .int .i64 ad]); refine (H3.out _).mono ?_; rintro e w1 ⟨rfl, hb⟩; have HS := keep4 hb (by assumption); clear hb)
    | (go_at_call_of 13 (Value.agg #[.int .i64 ao, .int .i64 bd]); refine (H4.out _).mono ?_; rintro e w1 ⟨rfl, hb⟩; have HS := keep4 hb (by assumption); clear hb)
    | (go_at_call 23; refine (H5.out _ (HK.out.below (Hid.out (And.left (by assumption))))).mono ?_; rintro e w1 ⟨rfl, hb⟩; have HS := keep4 hb (by assumption); clear hb))
  all_goals go_region_held3 (fun w' => Hid (Below w.heap.size w w') ∧ w'.cell? ⟨w.heap.size, 0, none⟩ = some (.int .i64 ao) ∧ w'.cell? ⟨w.heap.size, 1, none⟩ = some (.int .i64 ad) ∧ w'.cell? ⟨w.heap.size + 1, 0, none⟩ = some (.int .i64 ao) ∧ w'.cell? ⟨w.heap.size + 1, 1, none⟩ = some (.int .i64 bd))
    (first
      | exact keep4 hb (by assumption)
      | (refine And.intro (Lib.hid (belowD (Hid.out (And.left (by assumption))))) ?_; exact And.right (by assumption)))
    (first
      | (go_at_call 17; (with_reducible refine (H6.out _).mono ?_); rintro e w1 ⟨rfl, hb⟩)
      | (go_at_call 17; (with_reducible refine (H7.out _).mono ?_); rintro e w1 ⟨rfl, hb⟩)
      | (go_at_call 17; (with_reducible refine (H8.out _).mono ?_); rintro e w1 ⟨rfl, hb⟩)
      | (go_at_call 19; refine (keyed_true _ (HK.out.below (Hid.out (And.left (by assumption))))).mono ?_; rintro e w1 ⟨rfl, hb⟩))
  all_goals go_wp2_with fail
  all_goals go_ret
  all_goals exact ⟨rfl, Hid.out (And.left (by assumption))⟩


set_option linter.unusedVariables false in
set_option maxHeartbeats 4000000 in
theorem back_n2_ttf (ao ad bd : Int) (L1 L2 : List UInt8)  (w : World) (HK : Hid (KW w))
    (H1 : Hid (∀ W, KW W → Calls Tryd.prog 15 #[.agg #[.int .i64 ao, .int .i64 ad]] W fun e w' => e = .returned (.string ⟨L1.toArray⟩) ∧ Below W.heap.size W w'))
    (H2 : Hid (∀ W, KW W → Calls Tryd.prog 15 #[.agg #[.int .i64 ao, .int .i64 bd]] W fun e w' => e = .returned (.string ⟨L2.toArray⟩) ∧ Below W.heap.size W w'))
    (H3 : Hid (∀ W, Calls Tryd.prog 13 #[.agg #[.int .i64 ao, .int .i64 ad]] W fun e w' => e = .returned (.bool true) ∧ Below W.heap.size W w'))
    (H4 : Hid (∀ W, Calls Tryd.prog 13 #[.agg #[.int .i64 ao, .int .i64 bd]] W fun e w' => e = .returned (.bool true) ∧ Below W.heap.size W w'))
    (H5 : Hid (∀ W, KW W → Calls Tryd.prog 23 #[.string ⟨L1.toArray⟩, .agg #[.int .i64 ao, .int .i64 ad], .bool true] W fun e w' => e = .returned (.bool true) ∧ Below W.heap.size W w'))
    (H6 : Hid (∀ W, Calls Tryd.prog 17 #[.agg #[.int .i64 ao, .int .i64 ad], .agg #[.int .i64 ao, .int .i64 bd]] W fun e w' => e = .returned (.bool false) ∧ Below W.heap.size W w'))
    (H7 : Hid (∀ W, Calls Tryd.prog 17 #[.agg #[.int .i64 ao, .int .i64 bd], .agg #[.int .i64 ao, .int .i64 ad]] W fun e w' => e = .returned (.bool true) ∧ Below W.heap.size W w'))
    (H8 : Hid (∀ W, Calls Tryd.prog 17 #[.agg #[.int .i64 ao, .int .i64 ad], .agg #[.int .i64 ao, .int .i64 ad]] W fun e w' => e = .returned (.bool false) ∧ Below W.heap.size W w'))
    (hL1 : L1.isEmpty = false) (hLL : (L1 == L2) = false) (hne : ¬ ad = bd) :
    Calls Tryd.prog 5 #[.agg #[.int .i64 ao, .int .i64 ad], .agg #[.int .i64 ao, .int .i64 bd]] w fun e w' => e = .returned (.bool true) ∧ Below w.heap.size w w' := by
  go_enter Tryd.func5, Tryd.ntmps5
  go_wp2_with fail
  have HB0 := Lib.hid (show Below w.heap.size w ((w.alloc (.cells #[.int .i64 ao, .int .i64 ad] 23)).alloc (.cells #[.int .i64 ao, .int .i64 bd] 23)) from (below_alloc w _).alloc (by simp) _)
  have HA1 := Lib.hid (show ((w.alloc (.cells #[.int .i64 ao, .int .i64 ad] 23)).alloc (.cells #[.int .i64 ao, .int .i64 bd] 23)).heap[w.heap.size]? = some (.cells #[.int .i64 ao, .int .i64 ad] 23 (0, 0)) from heap_keep (heap_new w _) (below_alloc _ _))
  have HA2 := Lib.hid (show ((w.alloc (.cells #[.int .i64 ao, .int .i64 ad] 23)).alloc (.cells #[.int .i64 ao, .int .i64 bd] 23)).heap[w.heap.size + 1]? = some (.cells #[.int .i64 ao, .int .i64 bd] 23 (0, 0)) from by
    have := heap_new (w.alloc (.cells #[.int .i64 ao, .int .i64 ad] 23)) (.cells #[.int .i64 ao, .int .i64 bd] 23)
    rw [show (w.alloc (.cells #[.int .i64 ao, .int .i64 ad] 23)).heap.size = w.heap.size + 1 by simp] at this
    exact this)
  generalize ((w.alloc (.cells #[.int .i64 ao, .int .i64 ad] 23)).alloc (.cells #[.int .i64 ao, .int .i64 bd] 23)) = wr at HB0 HA1 HA2 ⊢
  obtain ⟨a0, a1, _, _⟩ := cell2 HA1.out
  obtain ⟨b0, b1, _, _⟩ := cell2 HA2.out
  go_region_held3 (fun w' => Hid (Below w.heap.size w w') ∧ w'.cell? ⟨w.heap.size, 0, none⟩ = some (.int .i64 ao) ∧ w'.cell? ⟨w.heap.size, 1, none⟩ = some (.int .i64 ad) ∧ w'.cell? ⟨w.heap.size + 1, 0, none⟩ = some (.int .i64 ao) ∧ w'.cell? ⟨w.heap.size + 1, 1, none⟩ = some (.int .i64 bd))
    (first
      | exact keep4 hb (by assumption)
      | exact ⟨belowD HB0.out, a0, a1, b0, b1⟩)
    (first
      | (go_at_call_of 15 (Value.agg #[.int .i64 ao, .int .i64 ad]); refine (H1.out _ (HK.out.below (Hid.out (And.left (by assumption))))).mono ?_; rintro e w1 ⟨rfl, hb⟩)
      | (go_at_call_of 15 (Value.agg #[.int .i64 ao, .int .i64 bd]); refine (H2.out _ (HK.out.below (Hid.out (And.left (by assumption))))).mono ?_; rintro e w1 ⟨rfl, hb⟩))
  all_goals go_wp2_with (first
    | (go_at_call_of 13 (Value.agg #[.int .i64 ao, .int .i64 ad]); refine (H3.out _).mono ?_; rintro e w1 ⟨rfl, hb⟩; have HS := keep4 hb (by assumption); clear hb)
    | (go_at_call_of 13 (Value.agg #[.int .i64 ao, .int .i64 bd]); refine (H4.out _).mono ?_; rintro e w1 ⟨rfl, hb⟩; have HS := keep4 hb (by assumption); clear hb)
    | (go_at_call 23; refine (H5.out _ (HK.out.below (Hid.out (And.left (by assumption))))).mono ?_; rintro e w1 ⟨rfl, hb⟩; have HS := keep4 hb (by assumption); clear hb))
  all_goals go_region_held3 (fun w' => Hid (Below w.heap.size w w') ∧ w'.cell? ⟨w.heap.size, 0, none⟩ = some (.int .i64 ao) ∧ w'.cell? ⟨w.heap.size, 1, none⟩ = some (.int .i64 ad) ∧ w'.cell? ⟨w.heap.size + 1, 0, none⟩ = some (.int .i64 ao) ∧ w'.cell? ⟨w.heap.size + 1, 1, none⟩ = some (.int .i64 bd))
    (first
      | exact keep4 hb (by assumption)
      | (refine And.intro (Lib.hid (belowD (Hid.out (And.left (by assumption))))) ?_; exact And.right (by assumption)))
    (first
      | (go_at_call 17; (with_reducible refine (H6.out _).mono ?_); rintro e w1 ⟨rfl, hb⟩)
      | (go_at_call 17; (with_reducible refine (H7.out _).mono ?_); rintro e w1 ⟨rfl, hb⟩)
      | (go_at_call 17; (with_reducible refine (H8.out _).mono ?_); rintro e w1 ⟨rfl, hb⟩)
      | (go_at_call 19; refine (keyed_true _ (HK.out.below (Hid.out (And.left (by assumption))))).mono ?_; rintro e w1 ⟨rfl, hb⟩))
  all_goals go_wp2_with fail
  all_goals go_ret
  all_goals exact ⟨rfl, Hid.out (And.left (by assumption))⟩


set_option linter.unusedVariables false in
set_option maxHeartbeats 4000000 in
theorem back_n2_tft (ao ad bd : Int) (L1 L2 : List UInt8)  (w : World) (HK : Hid (KW w))
    (H1 : Hid (∀ W, KW W → Calls Tryd.prog 15 #[.agg #[.int .i64 ao, .int .i64 ad]] W fun e w' => e = .returned (.string ⟨L1.toArray⟩) ∧ Below W.heap.size W w'))
    (H2 : Hid (∀ W, KW W → Calls Tryd.prog 15 #[.agg #[.int .i64 ao, .int .i64 bd]] W fun e w' => e = .returned (.string ⟨L2.toArray⟩) ∧ Below W.heap.size W w'))
    (H3 : Hid (∀ W, Calls Tryd.prog 13 #[.agg #[.int .i64 ao, .int .i64 ad]] W fun e w' => e = .returned (.bool true) ∧ Below W.heap.size W w'))
    (H4 : Hid (∀ W, Calls Tryd.prog 13 #[.agg #[.int .i64 ao, .int .i64 bd]] W fun e w' => e = .returned (.bool false) ∧ Below W.heap.size W w'))
    (H5 : Hid (∀ W, KW W → Calls Tryd.prog 23 #[.string ⟨L1.toArray⟩, .agg #[.int .i64 ao, .int .i64 ad], .bool true] W fun e w' => e = .returned (.bool true) ∧ Below W.heap.size W w'))
    (H6 : Hid (∀ W, Calls Tryd.prog 17 #[.agg #[.int .i64 ao, .int .i64 ad], .agg #[.int .i64 ao, .int .i64 bd]] W fun e w' => e = .returned (.bool true) ∧ Below W.heap.size W w'))
    (H7 : Hid (∀ W, Calls Tryd.prog 17 #[.agg #[.int .i64 ao, .int .i64 bd], .agg #[.int .i64 ao, .int .i64 ad]] W fun e w' => e = .returned (.bool false) ∧ Below W.heap.size W w'))
    (H8 : Hid (∀ W, Calls Tryd.prog 17 #[.agg #[.int .i64 ao, .int .i64 ad], .agg #[.int .i64 ao, .int .i64 ad]] W fun e w' => e = .returned (.bool false) ∧ Below W.heap.size W w'))
    (hL1 : L1.isEmpty = false) (hne : ¬ ad = bd) :
    Calls Tryd.prog 5 #[.agg #[.int .i64 ao, .int .i64 ad], .agg #[.int .i64 ao, .int .i64 bd]] w fun e w' => e = .returned (.bool true) ∧ Below w.heap.size w w' := by
  go_enter Tryd.func5, Tryd.ntmps5
  go_wp2_with fail
  have HB0 := Lib.hid (show Below w.heap.size w ((w.alloc (.cells #[.int .i64 ao, .int .i64 ad] 23)).alloc (.cells #[.int .i64 ao, .int .i64 bd] 23)) from (below_alloc w _).alloc (by simp) _)
  have HA1 := Lib.hid (show ((w.alloc (.cells #[.int .i64 ao, .int .i64 ad] 23)).alloc (.cells #[.int .i64 ao, .int .i64 bd] 23)).heap[w.heap.size]? = some (.cells #[.int .i64 ao, .int .i64 ad] 23 (0, 0)) from heap_keep (heap_new w _) (below_alloc _ _))
  have HA2 := Lib.hid (show ((w.alloc (.cells #[.int .i64 ao, .int .i64 ad] 23)).alloc (.cells #[.int .i64 ao, .int .i64 bd] 23)).heap[w.heap.size + 1]? = some (.cells #[.int .i64 ao, .int .i64 bd] 23 (0, 0)) from by
    have := heap_new (w.alloc (.cells #[.int .i64 ao, .int .i64 ad] 23)) (.cells #[.int .i64 ao, .int .i64 bd] 23)
    rw [show (w.alloc (.cells #[.int .i64 ao, .int .i64 ad] 23)).heap.size = w.heap.size + 1 by simp] at this
    exact this)
  generalize ((w.alloc (.cells #[.int .i64 ao, .int .i64 ad] 23)).alloc (.cells #[.int .i64 ao, .int .i64 bd] 23)) = wr at HB0 HA1 HA2 ⊢
  obtain ⟨a0, a1, _, _⟩ := cell2 HA1.out
  obtain ⟨b0, b1, _, _⟩ := cell2 HA2.out
  go_region_held3 (fun w' => Hid (Below w.heap.size w w') ∧ w'.cell? ⟨w.heap.size, 0, none⟩ = some (.int .i64 ao) ∧ w'.cell? ⟨w.heap.size, 1, none⟩ = some (.int .i64 ad) ∧ w'.cell? ⟨w.heap.size + 1, 0, none⟩ = some (.int .i64 ao) ∧ w'.cell? ⟨w.heap.size + 1, 1, none⟩ = some (.int .i64 bd))
    (first
      | exact keep4 hb (by assumption)
      | exact ⟨belowD HB0.out, a0, a1, b0, b1⟩)
    (first
      | (go_at_call_of 15 (Value.agg #[.int .i64 ao, .int .i64 ad]); refine (H1.out _ (HK.out.below (Hid.out (And.left (by assumption))))).mono ?_; rintro e w1 ⟨rfl, hb⟩)
      | (go_at_call_of 15 (Value.agg #[.int .i64 ao, .int .i64 bd]); refine (H2.out _ (HK.out.below (Hid.out (And.left (by assumption))))).mono ?_; rintro e w1 ⟨rfl, hb⟩))
  all_goals go_wp2_with (first
    | (go_at_call_of 13 (Value.agg #[.int .i64 ao, .int .i64 ad]); refine (H3.out _).mono ?_; rintro e w1 ⟨rfl, hb⟩; have HS := keep4 hb (by assumption); clear hb)
    | (go_at_call_of 13 (Value.agg #[.int .i64 ao, .int .i64 bd]); refine (H4.out _).mono ?_; rintro e w1 ⟨rfl, hb⟩; have HS := keep4 hb (by assumption); clear hb)
    | (go_at_call 23; refine (H5.out _ (HK.out.below (Hid.out (And.left (by assumption))))).mono ?_; rintro e w1 ⟨rfl, hb⟩; have HS := keep4 hb (by assumption); clear hb))
  all_goals go_region_held3 (fun w' => Hid (Below w.heap.size w w') ∧ w'.cell? ⟨w.heap.size, 0, none⟩ = some (.int .i64 ao) ∧ w'.cell? ⟨w.heap.size, 1, none⟩ = some (.int .i64 ad) ∧ w'.cell? ⟨w.heap.size + 1, 0, none⟩ = some (.int .i64 ao) ∧ w'.cell? ⟨w.heap.size + 1, 1, none⟩ = some (.int .i64 bd))
    (first
      | exact keep4 hb (by assumption)
      | (refine And.intro (Lib.hid (belowD (Hid.out (And.left (by assumption))))) ?_; exact And.right (by assumption)))
    (first
      | (go_at_call 17; (with_reducible refine (H6.out _).mono ?_); rintro e w1 ⟨rfl, hb⟩)
      | (go_at_call 17; (with_reducible refine (H7.out _).mono ?_); rintro e w1 ⟨rfl, hb⟩)
      | (go_at_call 17; (with_reducible refine (H8.out _).mono ?_); rintro e w1 ⟨rfl, hb⟩)
      | (go_at_call 19; refine (keyed_true _ (HK.out.below (Hid.out (And.left (by assumption))))).mono ?_; rintro e w1 ⟨rfl, hb⟩))
  all_goals go_wp2_with fail
  all_goals go_ret
  all_goals exact ⟨rfl, Hid.out (And.left (by assumption))⟩


set_option linter.unusedVariables false in
set_option maxHeartbeats 4000000 in
theorem back_n2_tff (ao ad bd : Int) (L1 L2 : List UInt8)  (w : World) (HK : Hid (KW w))
    (H1 : Hid (∀ W, KW W → Calls Tryd.prog 15 #[.agg #[.int .i64 ao, .int .i64 ad]] W fun e w' => e = .returned (.string ⟨L1.toArray⟩) ∧ Below W.heap.size W w'))
    (H2 : Hid (∀ W, KW W → Calls Tryd.prog 15 #[.agg #[.int .i64 ao, .int .i64 bd]] W fun e w' => e = .returned (.string ⟨L2.toArray⟩) ∧ Below W.heap.size W w'))
    (H3 : Hid (∀ W, Calls Tryd.prog 13 #[.agg #[.int .i64 ao, .int .i64 ad]] W fun e w' => e = .returned (.bool true) ∧ Below W.heap.size W w'))
    (H4 : Hid (∀ W, Calls Tryd.prog 13 #[.agg #[.int .i64 ao, .int .i64 bd]] W fun e w' => e = .returned (.bool false) ∧ Below W.heap.size W w'))
    (H5 : Hid (∀ W, KW W → Calls Tryd.prog 23 #[.string ⟨L1.toArray⟩, .agg #[.int .i64 ao, .int .i64 ad], .bool true] W fun e w' => e = .returned (.bool true) ∧ Below W.heap.size W w'))
    (H6 : Hid (∀ W, Calls Tryd.prog 17 #[.agg #[.int .i64 ao, .int .i64 ad], .agg #[.int .i64 ao, .int .i64 bd]] W fun e w' => e = .returned (.bool false) ∧ Below W.heap.size W w'))
    (H7 : Hid (∀ W, Calls Tryd.prog 17 #[.agg #[.int .i64 ao, .int .i64 bd], .agg #[.int .i64 ao, .int .i64 ad]] W fun e w' => e = .returned (.bool true) ∧ Below W.heap.size W w'))
    (H8 : Hid (∀ W, Calls Tryd.prog 17 #[.agg #[.int .i64 ao, .int .i64 ad], .agg #[.int .i64 ao, .int .i64 ad]] W fun e w' => e = .returned (.bool false) ∧ Below W.heap.size W w'))
    (hL1 : L1.isEmpty = false) (hne : ¬ ad = bd) :
    Calls Tryd.prog 5 #[.agg #[.int .i64 ao, .int .i64 ad], .agg #[.int .i64 ao, .int .i64 bd]] w fun e w' => e = .returned (.bool true) ∧ Below w.heap.size w w' := by
  go_enter Tryd.func5, Tryd.ntmps5
  go_wp2_with fail
  have HB0 := Lib.hid (show Below w.heap.size w ((w.alloc (.cells #[.int .i64 ao, .int .i64 ad] 23)).alloc (.cells #[.int .i64 ao, .int .i64 bd] 23)) from (below_alloc w _).alloc (by simp) _)
  have HA1 := Lib.hid (show ((w.alloc (.cells #[.int .i64 ao, .int .i64 ad] 23)).alloc (.cells #[.int .i64 ao, .int .i64 bd] 23)).heap[w.heap.size]? = some (.cells #[.int .i64 ao, .int .i64 ad] 23 (0, 0)) from heap_keep (heap_new w _) (below_alloc _ _))
  have HA2 := Lib.hid (show ((w.alloc (.cells #[.int .i64 ao, .int .i64 ad] 23)).alloc (.cells #[.int .i64 ao, .int .i64 bd] 23)).heap[w.heap.size + 1]? = some (.cells #[.int .i64 ao, .int .i64 bd] 23 (0, 0)) from by
    have := heap_new (w.alloc (.cells #[.int .i64 ao, .int .i64 ad] 23)) (.cells #[.int .i64 ao, .int .i64 bd] 23)
    rw [show (w.alloc (.cells #[.int .i64 ao, .int .i64 ad] 23)).heap.size = w.heap.size + 1 by simp] at this
    exact this)
  generalize ((w.alloc (.cells #[.int .i64 ao, .int .i64 ad] 23)).alloc (.cells #[.int .i64 ao, .int .i64 bd] 23)) = wr at HB0 HA1 HA2 ⊢
  obtain ⟨a0, a1, _, _⟩ := cell2 HA1.out
  obtain ⟨b0, b1, _, _⟩ := cell2 HA2.out
  go_region_held3 (fun w' => Hid (Below w.heap.size w w') ∧ w'.cell? ⟨w.heap.size, 0, none⟩ = some (.int .i64 ao) ∧ w'.cell? ⟨w.heap.size, 1, none⟩ = some (.int .i64 ad) ∧ w'.cell? ⟨w.heap.size + 1, 0, none⟩ = some (.int .i64 ao) ∧ w'.cell? ⟨w.heap.size + 1, 1, none⟩ = some (.int .i64 bd))
    (first
      | exact keep4 hb (by assumption)
      | exact ⟨belowD HB0.out, a0, a1, b0, b1⟩)
    (first
      | (go_at_call_of 15 (Value.agg #[.int .i64 ao, .int .i64 ad]); refine (H1.out _ (HK.out.below (Hid.out (And.left (by assumption))))).mono ?_; rintro e w1 ⟨rfl, hb⟩)
      | (go_at_call_of 15 (Value.agg #[.int .i64 ao, .int .i64 bd]); refine (H2.out _ (HK.out.below (Hid.out (And.left (by assumption))))).mono ?_; rintro e w1 ⟨rfl, hb⟩))
  all_goals go_wp2_with (first
    | (go_at_call_of 13 (Value.agg #[.int .i64 ao, .int .i64 ad]); refine (H3.out _).mono ?_; rintro e w1 ⟨rfl, hb⟩; have HS := keep4 hb (by assumption); clear hb)
    | (go_at_call_of 13 (Value.agg #[.int .i64 ao, .int .i64 bd]); refine (H4.out _).mono ?_; rintro e w1 ⟨rfl, hb⟩; have HS := keep4 hb (by assumption); clear hb)
    | (go_at_call 23; refine (H5.out _ (HK.out.below (Hid.out (And.left (by assumption))))).mono ?_; rintro e w1 ⟨rfl, hb⟩; have HS := keep4 hb (by assumption); clear hb))
  all_goals go_region_held3 (fun w' => Hid (Below w.heap.size w w') ∧ w'.cell? ⟨w.heap.size, 0, none⟩ = some (.int .i64 ao) ∧ w'.cell? ⟨w.heap.size, 1, none⟩ = some (.int .i64 ad) ∧ w'.cell? ⟨w.heap.size + 1, 0, none⟩ = some (.int .i64 ao) ∧ w'.cell? ⟨w.heap.size + 1, 1, none⟩ = some (.int .i64 bd))
    (first
      | exact keep4 hb (by assumption)
      | (refine And.intro (Lib.hid (belowD (Hid.out (And.left (by assumption))))) ?_; exact And.right (by assumption)))
    (first
      | (go_at_call 17; (with_reducible refine (H6.out _).mono ?_); rintro e w1 ⟨rfl, hb⟩)
      | (go_at_call 17; (with_reducible refine (H7.out _).mono ?_); rintro e w1 ⟨rfl, hb⟩)
      | (go_at_call 17; (with_reducible refine (H8.out _).mono ?_); rintro e w1 ⟨rfl, hb⟩)
      | (go_at_call 19; refine (keyed_true _ (HK.out.below (Hid.out (And.left (by assumption))))).mono ?_; rintro e w1 ⟨rfl, hb⟩))
  all_goals go_wp2_with fail
  all_goals go_ret
  all_goals exact ⟨rfl, Hid.out (And.left (by assumption))⟩


set_option linter.unusedVariables false in
set_option maxHeartbeats 4000000 in
theorem back_n2_ftt (ao ad bd : Int) (L1 L2 : List UInt8)  (w : World) (HK : Hid (KW w))
    (H1 : Hid (∀ W, KW W → Calls Tryd.prog 15 #[.agg #[.int .i64 ao, .int .i64 ad]] W fun e w' => e = .returned (.string ⟨L1.toArray⟩) ∧ Below W.heap.size W w'))
    (H2 : Hid (∀ W, KW W → Calls Tryd.prog 15 #[.agg #[.int .i64 ao, .int .i64 bd]] W fun e w' => e = .returned (.string ⟨L2.toArray⟩) ∧ Below W.heap.size W w'))
    (H3 : Hid (∀ W, Calls Tryd.prog 13 #[.agg #[.int .i64 ao, .int .i64 ad]] W fun e w' => e = .returned (.bool false) ∧ Below W.heap.size W w'))
    (H4 : Hid (∀ W, Calls Tryd.prog 13 #[.agg #[.int .i64 ao, .int .i64 bd]] W fun e w' => e = .returned (.bool true) ∧ Below W.heap.size W w'))
    (H6 : Hid (∀ W, Calls Tryd.prog 17 #[.agg #[.int .i64 ao, .int .i64 ad], .agg #[.int .i64 ao, .int .i64 bd]] W fun e w' => e = .returned (.bool true) ∧ Below W.heap.size W w'))
    (H7 : Hid (∀ W, Calls Tryd.prog 17 #[.agg #[.int .i64 ao, .int .i64 bd], .agg #[.int .i64 ao, .int .i64 ad]] W fun e w' => e = .returned (.bool false) ∧ Below W.heap.size W w'))
    (H8 : Hid (∀ W, Calls Tryd.prog 17 #[.agg #[.int .i64 ao, .int .i64 ad], .agg #[.int .i64 ao, .int .i64 ad]] W fun e w' => e = .returned (.bool false) ∧ Below W.heap.size W w'))
    (hL1 : L1.isEmpty = true) (hne : ¬ ad = bd) :
    Calls Tryd.prog 5 #[.agg #[.int .i64 ao, .int .i64 ad], .agg #[.int .i64 ao, .int .i64 bd]] w fun e w' => e = .returned (.bool true) ∧ Below w.heap.size w w' := by
  go_enter Tryd.func5, Tryd.ntmps5
  go_wp2_with fail
  have HB0 := Lib.hid (show Below w.heap.size w ((w.alloc (.cells #[.int .i64 ao, .int .i64 ad] 23)).alloc (.cells #[.int .i64 ao, .int .i64 bd] 23)) from (below_alloc w _).alloc (by simp) _)
  have HA1 := Lib.hid (show ((w.alloc (.cells #[.int .i64 ao, .int .i64 ad] 23)).alloc (.cells #[.int .i64 ao, .int .i64 bd] 23)).heap[w.heap.size]? = some (.cells #[.int .i64 ao, .int .i64 ad] 23 (0, 0)) from heap_keep (heap_new w _) (below_alloc _ _))
  have HA2 := Lib.hid (show ((w.alloc (.cells #[.int .i64 ao, .int .i64 ad] 23)).alloc (.cells #[.int .i64 ao, .int .i64 bd] 23)).heap[w.heap.size + 1]? = some (.cells #[.int .i64 ao, .int .i64 bd] 23 (0, 0)) from by
    have := heap_new (w.alloc (.cells #[.int .i64 ao, .int .i64 ad] 23)) (.cells #[.int .i64 ao, .int .i64 bd] 23)
    rw [show (w.alloc (.cells #[.int .i64 ao, .int .i64 ad] 23)).heap.size = w.heap.size + 1 by simp] at this
    exact this)
  generalize ((w.alloc (.cells #[.int .i64 ao, .int .i64 ad] 23)).alloc (.cells #[.int .i64 ao, .int .i64 bd] 23)) = wr at HB0 HA1 HA2 ⊢
  obtain ⟨a0, a1, _, _⟩ := cell2 HA1.out
  obtain ⟨b0, b1, _, _⟩ := cell2 HA2.out
  go_region_held3 (fun w' => Hid (Below w.heap.size w w') ∧ w'.cell? ⟨w.heap.size, 0, none⟩ = some (.int .i64 ao) ∧ w'.cell? ⟨w.heap.size, 1, none⟩ = some (.int .i64 ad) ∧ w'.cell? ⟨w.heap.size + 1, 0, none⟩ = some (.int .i64 ao) ∧ w'.cell? ⟨w.heap.size + 1, 1, none⟩ = some (.int .i64 bd))
    (first
      | exact keep4 hb (by assumption)
      | exact ⟨belowD HB0.out, a0, a1, b0, b1⟩)
    (first
      | (go_at_call_of 15 (Value.agg #[.int .i64 ao, .int .i64 ad]); refine (H1.out _ (HK.out.below (Hid.out (And.left (by assumption))))).mono ?_; rintro e w1 ⟨rfl, hb⟩)
      | (go_at_call_of 15 (Value.agg #[.int .i64 ao, .int .i64 bd]); refine (H2.out _ (HK.out.below (Hid.out (And.left (by assumption))))).mono ?_; rintro e w1 ⟨rfl, hb⟩))
  all_goals go_wp2_with (first
    | (go_at_call_of 13 (Value.agg #[.int .i64 ao, .int .i64 ad]); refine (H3.out _).mono ?_; rintro e w1 ⟨rfl, hb⟩; have HS := keep4 hb (by assumption); clear hb)
    | (go_at_call_of 13 (Value.agg #[.int .i64 ao, .int .i64 bd]); refine (H4.out _).mono ?_; rintro e w1 ⟨rfl, hb⟩; have HS := keep4 hb (by assumption); clear hb))
  all_goals go_region_held3 (fun w' => Hid (Below w.heap.size w w') ∧ w'.cell? ⟨w.heap.size, 0, none⟩ = some (.int .i64 ao) ∧ w'.cell? ⟨w.heap.size, 1, none⟩ = some (.int .i64 ad) ∧ w'.cell? ⟨w.heap.size + 1, 0, none⟩ = some (.int .i64 ao) ∧ w'.cell? ⟨w.heap.size + 1, 1, none⟩ = some (.int .i64 bd))
    (first
      | exact keep4 hb (by assumption)
      | (refine And.intro (Lib.hid (belowD (Hid.out (And.left (by assumption))))) ?_; exact And.right (by assumption)))
    (first
      | (go_at_call 17; (with_reducible refine (H6.out _).mono ?_); rintro e w1 ⟨rfl, hb⟩)
      | (go_at_call 17; (with_reducible refine (H7.out _).mono ?_); rintro e w1 ⟨rfl, hb⟩)
      | (go_at_call 17; (with_reducible refine (H8.out _).mono ?_); rintro e w1 ⟨rfl, hb⟩)
      | (go_at_call 19; refine (keyed_true _ (HK.out.below (Hid.out (And.left (by assumption))))).mono ?_; rintro e w1 ⟨rfl, hb⟩))
  all_goals go_wp2_with fail
  all_goals go_ret
  all_goals exact ⟨rfl, Hid.out (And.left (by assumption))⟩


set_option linter.unusedVariables false in
set_option maxHeartbeats 4000000 in
theorem back_n2_ftf (ao ad bd : Int) (L1 L2 : List UInt8)  (w : World) (HK : Hid (KW w))
    (H1 : Hid (∀ W, KW W → Calls Tryd.prog 15 #[.agg #[.int .i64 ao, .int .i64 ad]] W fun e w' => e = .returned (.string ⟨L1.toArray⟩) ∧ Below W.heap.size W w'))
    (H2 : Hid (∀ W, KW W → Calls Tryd.prog 15 #[.agg #[.int .i64 ao, .int .i64 bd]] W fun e w' => e = .returned (.string ⟨L2.toArray⟩) ∧ Below W.heap.size W w'))
    (H3 : Hid (∀ W, Calls Tryd.prog 13 #[.agg #[.int .i64 ao, .int .i64 ad]] W fun e w' => e = .returned (.bool false) ∧ Below W.heap.size W w'))
    (H4 : Hid (∀ W, Calls Tryd.prog 13 #[.agg #[.int .i64 ao, .int .i64 bd]] W fun e w' => e = .returned (.bool true) ∧ Below W.heap.size W w'))
    (H6 : Hid (∀ W, Calls Tryd.prog 17 #[.agg #[.int .i64 ao, .int .i64 ad], .agg #[.int .i64 ao, .int .i64 bd]] W fun e w' => e = .returned (.bool false) ∧ Below W.heap.size W w'))
    (H7 : Hid (∀ W, Calls Tryd.prog 17 #[.agg #[.int .i64 ao, .int .i64 bd], .agg #[.int .i64 ao, .int .i64 ad]] W fun e w' => e = .returned (.bool true) ∧ Below W.heap.size W w'))
    (H8 : Hid (∀ W, Calls Tryd.prog 17 #[.agg #[.int .i64 ao, .int .i64 ad], .agg #[.int .i64 ao, .int .i64 ad]] W fun e w' => e = .returned (.bool false) ∧ Below W.heap.size W w'))
    (hL1 : L1.isEmpty = true) (hne : ¬ ad = bd) :
    Calls Tryd.prog 5 #[.agg #[.int .i64 ao, .int .i64 ad], .agg #[.int .i64 ao, .int .i64 bd]] w fun e w' => e = .returned (.bool true) ∧ Below w.heap.size w w' := by
  go_enter Tryd.func5, Tryd.ntmps5
  go_wp2_with fail
  have HB0 := Lib.hid (show Below w.heap.size w ((w.alloc (.cells #[.int .i64 ao, .int .i64 ad] 23)).alloc (.cells #[.int .i64 ao, .int .i64 bd] 23)) from (below_alloc w _).alloc (by simp) _)
  have HA1 := Lib.hid (show ((w.alloc (.cells #[.int .i64 ao, .int .i64 ad] 23)).alloc (.cells #[.int .i64 ao, .int .i64 bd] 23)).heap[w.heap.size]? = some (.cells #[.int .i64 ao, .int .i64 ad] 23 (0, 0)) from heap_keep (heap_new w _) (below_alloc _ _))
  have HA2 := Lib.hid (show ((w.alloc (.cells #[.int .i64 ao, .int .i64 ad] 23)).alloc (.cells #[.int .i64 ao, .int .i64 bd] 23)).heap[w.heap.size + 1]? = some (.cells #[.int .i64 ao, .int .i64 bd] 23 (0, 0)) from by
    have := heap_new (w.alloc (.cells #[.int .i64 ao, .int .i64 ad] 23)) (.cells #[.int .i64 ao, .int .i64 bd] 23)
    rw [show (w.alloc (.cells #[.int .i64 ao, .int .i64 ad] 23)).heap.size = w.heap.size + 1 by simp] at this
    exact this)
  generalize ((w.alloc (.cells #[.int .i64 ao, .int .i64 ad] 23)).alloc (.cells #[.int .i64 ao, .int .i64 bd] 23)) = wr at HB0 HA1 HA2 ⊢
  obtain ⟨a0, a1, _, _⟩ := cell2 HA1.out
  obtain ⟨b0, b1, _, _⟩ := cell2 HA2.out
  go_region_held3 (fun w' => Hid (Below w.heap.size w w') ∧ w'.cell? ⟨w.heap.size, 0, none⟩ = some (.int .i64 ao) ∧ w'.cell? ⟨w.heap.size, 1, none⟩ = some (.int .i64 ad) ∧ w'.cell? ⟨w.heap.size + 1, 0, none⟩ = some (.int .i64 ao) ∧ w'.cell? ⟨w.heap.size + 1, 1, none⟩ = some (.int .i64 bd))
    (first
      | exact keep4 hb (by assumption)
      | exact ⟨belowD HB0.out, a0, a1, b0, b1⟩)
    (first
      | (go_at_call_of 15 (Value.agg #[.int .i64 ao, .int .i64 ad]); refine (H1.out _ (HK.out.below (Hid.out (And.left (by assumption))))).mono ?_; rintro e w1 ⟨rfl, hb⟩)
      | (go_at_call_of 15 (Value.agg #[.int .i64 ao, .int .i64 bd]); refine (H2.out _ (HK.out.below (Hid.out (And.left (by assumption))))).mono ?_; rintro e w1 ⟨rfl, hb⟩))
  all_goals go_wp2_with (first
    | (go_at_call_of 13 (Value.agg #[.int .i64 ao, .int .i64 ad]); refine (H3.out _).mono ?_; rintro e w1 ⟨rfl, hb⟩; have HS := keep4 hb (by assumption); clear hb)
    | (go_at_call_of 13 (Value.agg #[.int .i64 ao, .int .i64 bd]); refine (H4.out _).mono ?_; rintro e w1 ⟨rfl, hb⟩; have HS := keep4 hb (by assumption); clear hb))
  all_goals go_region_held3 (fun w' => Hid (Below w.heap.size w w') ∧ w'.cell? ⟨w.heap.size, 0, none⟩ = some (.int .i64 ao) ∧ w'.cell? ⟨w.heap.size, 1, none⟩ = some (.int .i64 ad) ∧ w'.cell? ⟨w.heap.size + 1, 0, none⟩ = some (.int .i64 ao) ∧ w'.cell? ⟨w.heap.size + 1, 1, none⟩ = some (.int .i64 bd))
    (first
      | exact keep4 hb (by assumption)
      | (refine And.intro (Lib.hid (belowD (Hid.out (And.left (by assumption))))) ?_; exact And.right (by assumption)))
    (first
      | (go_at_call 17; (with_reducible refine (H6.out _).mono ?_); rintro e w1 ⟨rfl, hb⟩)
      | (go_at_call 17; (with_reducible refine (H7.out _).mono ?_); rintro e w1 ⟨rfl, hb⟩)
      | (go_at_call 17; (with_reducible refine (H8.out _).mono ?_); rintro e w1 ⟨rfl, hb⟩)
      | (go_at_call 19; refine (keyed_true _ (HK.out.below (Hid.out (And.left (by assumption))))).mono ?_; rintro e w1 ⟨rfl, hb⟩))
  all_goals go_wp2_with fail
  all_goals go_ret
  all_goals exact ⟨rfl, Hid.out (And.left (by assumption))⟩


set_option linter.unusedVariables false in
set_option maxHeartbeats 4000000 in
theorem back_n2_fft (ao ad bd : Int) (L1 L2 : List UInt8)  (w : World) (HK : Hid (KW w))
    (H1 : Hid (∀ W, KW W → Calls Tryd.prog 15 #[.agg #[.int .i64 ao, .int .i64 ad]] W fun e w' => e = .returned (.string ⟨L1.toArray⟩) ∧ Below W.heap.size W w'))
    (H2 : Hid (∀ W, KW W → Calls Tryd.prog 15 #[.agg #[.int .i64 ao, .int .i64 bd]] W fun e w' => e = .returned (.string ⟨L2.toArray⟩) ∧ Below W.heap.size W w'))
    (H3 : Hid (∀ W, Calls Tryd.prog 13 #[.agg #[.int .i64 ao, .int .i64 ad]] W fun e w' => e = .returned (.bool false) ∧ Below W.heap.size W w'))
    (H4 : Hid (∀ W, Calls Tryd.prog 13 #[.agg #[.int .i64 ao, .int .i64 bd]] W fun e w' => e = .returned (.bool false) ∧ Below W.heap.size W w'))
    (H6 : Hid (∀ W, Calls Tryd.prog 17 #[.agg #[.int .i64 ao, .int .i64 ad], .agg #[.int .i64 ao, .int .i64 bd]] W fun e w' => e = .returned (.bool true) ∧ Below W.heap.size W w'))
    (H7 : Hid (∀ W, Calls Tryd.prog 17 #[.agg #[.int .i64 ao, .int .i64 bd], .agg #[.int .i64 ao, .int .i64 ad]] W fun e w' => e = .returned (.bool false) ∧ Below W.heap.size W w'))
    (H8 : Hid (∀ W, Calls Tryd.prog 17 #[.agg #[.int .i64 ao, .int .i64 ad], .agg #[.int .i64 ao, .int .i64 ad]] W fun e w' => e = .returned (.bool false) ∧ Below W.heap.size W w'))
    (hL1 : L1.isEmpty = true) (hne : ¬ ad = bd) :
    Calls Tryd.prog 5 #[.agg #[.int .i64 ao, .int .i64 ad], .agg #[.int .i64 ao, .int .i64 bd]] w fun e w' => e = .returned (.bool true) ∧ Below w.heap.size w w' := by
  go_enter Tryd.func5, Tryd.ntmps5
  go_wp2_with fail
  have HB0 := Lib.hid (show Below w.heap.size w ((w.alloc (.cells #[.int .i64 ao, .int .i64 ad] 23)).alloc (.cells #[.int .i64 ao, .int .i64 bd] 23)) from (below_alloc w _).alloc (by simp) _)
  have HA1 := Lib.hid (show ((w.alloc (.cells #[.int .i64 ao, .int .i64 ad] 23)).alloc (.cells #[.int .i64 ao, .int .i64 bd] 23)).heap[w.heap.size]? = some (.cells #[.int .i64 ao, .int .i64 ad] 23 (0, 0)) from heap_keep (heap_new w _) (below_alloc _ _))
  have HA2 := Lib.hid (show ((w.alloc (.cells #[.int .i64 ao, .int .i64 ad] 23)).alloc (.cells #[.int .i64 ao, .int .i64 bd] 23)).heap[w.heap.size + 1]? = some (.cells #[.int .i64 ao, .int .i64 bd] 23 (0, 0)) from by
    have := heap_new (w.alloc (.cells #[.int .i64 ao, .int .i64 ad] 23)) (.cells #[.int .i64 ao, .int .i64 bd] 23)
    rw [show (w.alloc (.cells #[.int .i64 ao, .int .i64 ad] 23)).heap.size = w.heap.size + 1 by simp] at this
    exact this)
  generalize ((w.alloc (.cells #[.int .i64 ao, .int .i64 ad] 23)).alloc (.cells #[.int .i64 ao, .int .i64 bd] 23)) = wr at HB0 HA1 HA2 ⊢
  obtain ⟨a0, a1, _, _⟩ := cell2 HA1.out
  obtain ⟨b0, b1, _, _⟩ := cell2 HA2.out
  go_region_held3 (fun w' => Hid (Below w.heap.size w w') ∧ w'.cell? ⟨w.heap.size, 0, none⟩ = some (.int .i64 ao) ∧ w'.cell? ⟨w.heap.size, 1, none⟩ = some (.int .i64 ad) ∧ w'.cell? ⟨w.heap.size + 1, 0, none⟩ = some (.int .i64 ao) ∧ w'.cell? ⟨w.heap.size + 1, 1, none⟩ = some (.int .i64 bd))
    (first
      | exact keep4 hb (by assumption)
      | exact ⟨belowD HB0.out, a0, a1, b0, b1⟩)
    (first
      | (go_at_call_of 15 (Value.agg #[.int .i64 ao, .int .i64 ad]); refine (H1.out _ (HK.out.below (Hid.out (And.left (by assumption))))).mono ?_; rintro e w1 ⟨rfl, hb⟩)
      | (go_at_call_of 15 (Value.agg #[.int .i64 ao, .int .i64 bd]); refine (H2.out _ (HK.out.below (Hid.out (And.left (by assumption))))).mono ?_; rintro e w1 ⟨rfl, hb⟩))
  all_goals go_wp2_with (first
    | (go_at_call_of 13 (Value.agg #[.int .i64 ao, .int .i64 ad]); refine (H3.out _).mono ?_; rintro e w1 ⟨rfl, hb⟩; have HS := keep4 hb (by assumption); clear hb)
    | (go_at_call_of 13 (Value.agg #[.int .i64 ao, .int .i64 bd]); refine (H4.out _).mono ?_; rintro e w1 ⟨rfl, hb⟩; have HS := keep4 hb (by assumption); clear hb))
  all_goals go_region_held3 (fun w' => Hid (Below w.heap.size w w') ∧ w'.cell? ⟨w.heap.size, 0, none⟩ = some (.int .i64 ao) ∧ w'.cell? ⟨w.heap.size, 1, none⟩ = some (.int .i64 ad) ∧ w'.cell? ⟨w.heap.size + 1, 0, none⟩ = some (.int .i64 ao) ∧ w'.cell? ⟨w.heap.size + 1, 1, none⟩ = some (.int .i64 bd))
    (first
      | exact keep4 hb (by assumption)
      | (refine And.intro (Lib.hid (belowD (Hid.out (And.left (by assumption))))) ?_; exact And.right (by assumption)))
    (first
      | (go_at_call 17; (with_reducible refine (H6.out _).mono ?_); rintro e w1 ⟨rfl, hb⟩)
      | (go_at_call 17; (with_reducible refine (H7.out _).mono ?_); rintro e w1 ⟨rfl, hb⟩)
      | (go_at_call 17; (with_reducible refine (H8.out _).mono ?_); rintro e w1 ⟨rfl, hb⟩)
      | (go_at_call 19; refine (keyed_true _ (HK.out.below (Hid.out (And.left (by assumption))))).mono ?_; rintro e w1 ⟨rfl, hb⟩))
  all_goals go_wp2_with fail
  all_goals go_ret
  all_goals exact ⟨rfl, Hid.out (And.left (by assumption))⟩


set_option linter.unusedVariables false in
set_option maxHeartbeats 4000000 in
theorem back_n2_fff (ao ad bd : Int) (L1 L2 : List UInt8)  (w : World) (HK : Hid (KW w))
    (H1 : Hid (∀ W, KW W → Calls Tryd.prog 15 #[.agg #[.int .i64 ao, .int .i64 ad]] W fun e w' => e = .returned (.string ⟨L1.toArray⟩) ∧ Below W.heap.size W w'))
    (H2 : Hid (∀ W, KW W → Calls Tryd.prog 15 #[.agg #[.int .i64 ao, .int .i64 bd]] W fun e w' => e = .returned (.string ⟨L2.toArray⟩) ∧ Below W.heap.size W w'))
    (H3 : Hid (∀ W, Calls Tryd.prog 13 #[.agg #[.int .i64 ao, .int .i64 ad]] W fun e w' => e = .returned (.bool false) ∧ Below W.heap.size W w'))
    (H4 : Hid (∀ W, Calls Tryd.prog 13 #[.agg #[.int .i64 ao, .int .i64 bd]] W fun e w' => e = .returned (.bool false) ∧ Below W.heap.size W w'))
    (H6 : Hid (∀ W, Calls Tryd.prog 17 #[.agg #[.int .i64 ao, .int .i64 ad], .agg #[.int .i64 ao, .int .i64 bd]] W fun e w' => e = .returned (.bool false) ∧ Below W.heap.size W w'))
    (H7 : Hid (∀ W, Calls Tryd.prog 17 #[.agg #[.int .i64 ao, .int .i64 bd], .agg #[.int .i64 ao, .int .i64 ad]] W fun e w' => e = .returned (.bool true) ∧ Below W.heap.size W w'))
    (H8 : Hid (∀ W, Calls Tryd.prog 17 #[.agg #[.int .i64 ao, .int .i64 ad], .agg #[.int .i64 ao, .int .i64 ad]] W fun e w' => e = .returned (.bool false) ∧ Below W.heap.size W w'))
    (hL1 : L1.isEmpty = true) (hne : ¬ ad = bd) :
    Calls Tryd.prog 5 #[.agg #[.int .i64 ao, .int .i64 ad], .agg #[.int .i64 ao, .int .i64 bd]] w fun e w' => e = .returned (.bool true) ∧ Below w.heap.size w w' := by
  go_enter Tryd.func5, Tryd.ntmps5
  go_wp2_with fail
  have HB0 := Lib.hid (show Below w.heap.size w ((w.alloc (.cells #[.int .i64 ao, .int .i64 ad] 23)).alloc (.cells #[.int .i64 ao, .int .i64 bd] 23)) from (below_alloc w _).alloc (by simp) _)
  have HA1 := Lib.hid (show ((w.alloc (.cells #[.int .i64 ao, .int .i64 ad] 23)).alloc (.cells #[.int .i64 ao, .int .i64 bd] 23)).heap[w.heap.size]? = some (.cells #[.int .i64 ao, .int .i64 ad] 23 (0, 0)) from heap_keep (heap_new w _) (below_alloc _ _))
  have HA2 := Lib.hid (show ((w.alloc (.cells #[.int .i64 ao, .int .i64 ad] 23)).alloc (.cells #[.int .i64 ao, .int .i64 bd] 23)).heap[w.heap.size + 1]? = some (.cells #[.int .i64 ao, .int .i64 bd] 23 (0, 0)) from by
    have := heap_new (w.alloc (.cells #[.int .i64 ao, .int .i64 ad] 23)) (.cells #[.int .i64 ao, .int .i64 bd] 23)
    rw [show (w.alloc (.cells #[.int .i64 ao, .int .i64 ad] 23)).heap.size = w.heap.size + 1 by simp] at this
    exact this)
  generalize ((w.alloc (.cells #[.int .i64 ao, .int .i64 ad] 23)).alloc (.cells #[.int .i64 ao, .int .i64 bd] 23)) = wr at HB0 HA1 HA2 ⊢
  obtain ⟨a0, a1, _, _⟩ := cell2 HA1.out
  obtain ⟨b0, b1, _, _⟩ := cell2 HA2.out
  go_region_held3 (fun w' => Hid (Below w.heap.size w w') ∧ w'.cell? ⟨w.heap.size, 0, none⟩ = some (.int .i64 ao) ∧ w'.cell? ⟨w.heap.size, 1, none⟩ = some (.int .i64 ad) ∧ w'.cell? ⟨w.heap.size + 1, 0, none⟩ = some (.int .i64 ao) ∧ w'.cell? ⟨w.heap.size + 1, 1, none⟩ = some (.int .i64 bd))
    (first
      | exact keep4 hb (by assumption)
      | exact ⟨belowD HB0.out, a0, a1, b0, b1⟩)
    (first
      | (go_at_call_of 15 (Value.agg #[.int .i64 ao, .int .i64 ad]); refine (H1.out _ (HK.out.below (Hid.out (And.left (by assumption))))).mono ?_; rintro e w1 ⟨rfl, hb⟩)
      | (go_at_call_of 15 (Value.agg #[.int .i64 ao, .int .i64 bd]); refine (H2.out _ (HK.out.below (Hid.out (And.left (by assumption))))).mono ?_; rintro e w1 ⟨rfl, hb⟩))
  all_goals go_wp2_with (first
    | (go_at_call_of 13 (Value.agg #[.int .i64 ao, .int .i64 ad]); refine (H3.out _).mono ?_; rintro e w1 ⟨rfl, hb⟩; have HS := keep4 hb (by assumption); clear hb)
    | (go_at_call_of 13 (Value.agg #[.int .i64 ao, .int .i64 bd]); refine (H4.out _).mono ?_; rintro e w1 ⟨rfl, hb⟩; have HS := keep4 hb (by assumption); clear hb))
  all_goals go_region_held3 (fun w' => Hid (Below w.heap.size w w') ∧ w'.cell? ⟨w.heap.size, 0, none⟩ = some (.int .i64 ao) ∧ w'.cell? ⟨w.heap.size, 1, none⟩ = some (.int .i64 ad) ∧ w'.cell? ⟨w.heap.size + 1, 0, none⟩ = some (.int .i64 ao) ∧ w'.cell? ⟨w.heap.size + 1, 1, none⟩ = some (.int .i64 bd))
    (first
      | exact keep4 hb (by assumption)
      | (refine And.intro (Lib.hid (belowD (Hid.out (And.left (by assumption))))) ?_; exact And.right (by assumption)))
    (first
      | (go_at_call 17; (with_reducible refine (H6.out _).mono ?_); rintro e w1 ⟨rfl, hb⟩)
      | (go_at_call 17; (with_reducible refine (H7.out _).mono ?_); rintro e w1 ⟨rfl, hb⟩)
      | (go_at_call 17; (with_reducible refine (H8.out _).mono ?_); rintro e w1 ⟨rfl, hb⟩)
      | (go_at_call 19; refine (keyed_true _ (HK.out.below (Hid.out (And.left (by assumption))))).mono ?_; rintro e w1 ⟨rfl, hb⟩))
  all_goals go_wp2_with fail
  all_goals go_ret
  all_goals exact ⟨rfl, Hid.out (And.left (by assumption))⟩

end Go.Proofs.YtnakicbdljffeaaDoor
