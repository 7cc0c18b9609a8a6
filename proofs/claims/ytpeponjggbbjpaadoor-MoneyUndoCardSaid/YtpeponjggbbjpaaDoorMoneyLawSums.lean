/- The walks of consignorlaw01.MoneySums, MoneyUndo: they answer true, and nothing that was there is written. -/
import Derived.Test.YtpeponjggbbjpaaDoorMoneyUndo8
namespace Go.Proofs.YtpeponjggbbjpaaDoor
open Go.RowKit Mon

theorem c_sub (a b c : Int) (t : Bool) (ha : InR a) (hb : InR b) (h : subM a b = (c, t)) (W : World) : Calls Tryd.prog 9 #[.int .i64 a, .int .i64 b] W fun e w' => e = .returned (.tuple #[.int .i64 c, .bool t]) ∧ W = w' := by
  have := sub_any a b W ha hb
  rw [h] at this
  exact this
theorem c_refAdd (a b c : Int) (t : Bool) (ha : InR a) (hb : InR b) (h : addM a b = (c, t)) (W : World) : Calls Tryd.prog 8 #[.int .i64 a, .int .i64 b] W fun e w' => e = .returned (.tuple #[.int .i64 c, .bool t]) ∧ W = w' := by
  have := refAdd_any a b W ha hb
  rw [h] at this
  exact this
theorem c_refSub (a b c : Int) (t : Bool) (ha : InR a) (hb : InR b) (h : subM a b = (c, t)) (W : World) : Calls Tryd.prog 10 #[.int .i64 a, .int .i64 b] W fun e w' => e = .returned (.tuple #[.int .i64 c, .bool t]) ∧ W = w' := by
  have := refSub_any a b W ha hb
  rw [h] at this
  exact this

set_option maxHeartbeats 4000000 in
theorem lawMoneySums_walk (a b : Int) (w : World) (ha : InR a) (hb : InR b) (hM : MW w) :
    Calls Tryd.prog 3 #[.int .i64 a, .int .i64 b] w fun e w' => e = .returned (.bool true) ∧ Below w.heap.size w w' := by
  obtain ⟨c1, t1, h1⟩ : ∃ c t, addM a b = (c, t) := ⟨_, _, rfl⟩
  obtain ⟨c2, t2, h2⟩ : ∃ c t, subM a b = (c, t) := ⟨_, _, rfl⟩
  obtain ⟨c3, t3, h3⟩ : ∃ c t, subM 0 a = (c, t) := ⟨_, _, rfl⟩
  have H1 := Lib.hid (c_add a b c1 t1 ha hb h1)
  have H2 := Lib.hid (c_refAdd a b c1 t1 ha hb h1)
  have H3 := Lib.hid (c_sub a b c2 t2 ha hb h2)
  have H4 := Lib.hid (c_refSub a b c2 t2 ha hb h2)
  have H5 := Lib.hid (c_neg a c3 t3 ha h3)
  have H6 := Lib.hid (c_refSub 0 a c3 t3 zero_in ha h3)
  have HC := Lib.hid (counted_true w hM)
  clear ha hb h1 h2 h3 hM
  go_enter Tryd.func3, Tryd.ntmps3
  go_wp2_with fail
  refine (H1.out _).mono ?_
  rintro e w0 ⟨rfl, hw⟩; obtain rfl : w = w0 := hw
  go_wp2_with fail
  refine (H2.out _).mono ?_
  rintro e w0 ⟨rfl, hw⟩; obtain rfl : w = w0 := hw
  go_wp2_with fail
  refine (H3.out _).mono ?_
  rintro e w0 ⟨rfl, hw⟩; obtain rfl : w = w0 := hw
  go_wp2_with fail
  refine (H4.out _).mono ?_
  rintro e w0 ⟨rfl, hw⟩; obtain rfl : w = w0 := hw
  go_wp2_with fail
  refine (H5.out _).mono ?_
  rintro e w0 ⟨rfl, hw⟩; obtain rfl : w = w0 := hw
  go_wp2_with fail
  refine (H6.out _).mono ?_
  rintro e w0 ⟨rfl, hw⟩; obtain rfl : w = w0 := hw
  go_wp2_with fail
  refine (c_is _ _ _).mono ?_
  rintro e w0 ⟨rfl, hw⟩; obtain rfl : w = w0 := hw
  go_wp2_with fail
  refine (c_is _ _ _).mono ?_
  rintro e w0 ⟨rfl, hw⟩; obtain rfl : w = w0 := hw
  go_wp2_with fail
  refine (c_is _ _ _).mono ?_
  rintro e w0 ⟨rfl, hw⟩; obtain rfl : w = w0 := hw
  go_wp2_with fail
  refine HC.out.mono ?_
  rintro e w1 ⟨rfl, hb⟩
  have HB := Lib.hid hb
  clear hb
  go_wp2_with fail
  go_ret
  exact ⟨rfl, HB.out⟩

theorem sub_back {a b : Int} (ha : InR a) : subM (a + b) b = (a, true) := by rw [subM_ok (by rw [show a + b - b = a by omega]; exact ha), show a + b - b = a by omega]
theorem add_back {a b : Int} (ha : InR a) : addM (a - b) b = (a, true) := by rw [addM_ok (by rw [show a - b + b = a by omega]; exact ha), show a - b + b = a by omega]

theorem lawMoneyUndo_walk (a b : Int) (w : World) (ha : InR a) (hb : InR b) (hM : MW w) :
    Calls Tryd.prog 6 #[.int .i64 a, .int .i64 b] w fun e w' => e = .returned (.bool true) ∧ Below w.heap.size w w' := by
  have HC := Lib.hid (counted_true w hM)
  obtain ⟨a1, a2⟩ := id ha
  obtain ⟨b1, b2⟩ := id hb
  by_cases h1 : InR (a + b)
  · have i1 := h1
    unfold InR at i1
    have HA := Lib.hid (c_add a b _ _ ha hb (addM_ok h1))
    have HS1 := Lib.hid (c_sub (a + b) b a true h1 hb (sub_back ha))
    by_cases h2 : InR (a - b)
    · have i2 := h2
      unfold InR at i2
      have HD := Lib.hid (c_sub a b _ _ ha hb (subM_ok h2))
      have HS2 := Lib.hid (c_add (a - b) b a true h2 hb (add_back ha))
      by_cases h3 : a = -9223372036854775808
      · have HN := Lib.hid (c_neg a _ _ ha (subM_no (by unfold InR; omega)))
        exact undo_110 a b 0 0 0 w HC HA HD HN HS1 HS2 (bneF h3) (by omega) a2 b1 b2 (by omega)
      · have HN := Lib.hid (c_neg a (-a) true ha (by rw [subM_ok (by unfold InR; omega), Int.zero_sub]))
        exact undo_111 a b 0 0 0 w HC HA HD HN HS1 HS2 (bneT h3) (by omega) a2 b1 b2 (by omega)
    · have i2 := h2
      unfold InR at i2
      have HD := Lib.hid (c_sub a b _ _ ha hb (subM_no h2))
      by_cases h3 : a = -9223372036854775808
      · have HN := Lib.hid (c_neg a _ _ ha (subM_no (by unfold InR; omega)))
        exact undo_100 a b 0 0 0 w HC HA HD HN HS1 (bneF h3) (by omega) a2 b1 b2 (by omega)
      · have HN := Lib.hid (c_neg a (-a) true ha (by rw [subM_ok (by unfold InR; omega), Int.zero_sub]))
        exact undo_101 a b 0 0 0 w HC HA HD HN HS1 (bneT h3) (by omega) a2 b1 b2 (by omega)
  · have i1 := h1
    unfold InR at i1
    have HA := Lib.hid (c_add a b _ _ ha hb (addM_no h1))
    by_cases h2 : InR (a - b)
    · have i2 := h2
      unfold InR at i2
      have HD := Lib.hid (c_sub a b _ _ ha hb (subM_ok h2))
      have HS2 := Lib.hid (c_add (a - b) b a true h2 hb (add_back ha))
      by_cases h3 : a = -9223372036854775808
      · have HN := Lib.hid (c_neg a _ _ ha (subM_no (by unfold InR; omega)))
        exact undo_010 a b 0 0 0 w HC HA HD HN HS2 (bneF h3) (by omega) a2 b1 b2 (by omega)
      · have HN := Lib.hid (c_neg a (-a) true ha (by rw [subM_ok (by unfold InR; omega), Int.zero_sub]))
        exact undo_011 a b 0 0 0 w HC HA HD HN HS2 (bneT h3) (by omega) a2 b1 b2 (by omega)
    · have i2 := h2
      unfold InR at i2
      have HD := Lib.hid (c_sub a b _ _ ha hb (subM_no h2))
      by_cases h3 : a = -9223372036854775808
      · have HN := Lib.hid (c_neg a _ _ ha (subM_no (by unfold InR; omega)))
        exact undo_000 a b 0 0 0 w HC HA HD HN (bneF h3) (by omega) a2 b1 b2 (by omega)
      · have HN := Lib.hid (c_neg a (-a) true ha (by rw [subM_ok (by unfold InR; omega), Int.zero_sub]))
        exact undo_001 a b 0 0 0 w HC HA HD HN (bneT h3) (by omega) a2 b1 b2 (by omega)
end Go.Proofs.YtpeponjggbbjpaaDoor
