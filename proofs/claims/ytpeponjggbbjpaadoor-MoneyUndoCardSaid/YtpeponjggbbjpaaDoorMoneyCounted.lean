/- consignorlaw01.counted: the chapter's examples hold. -/
import Derived.Test.YtpeponjggbbjpaaDoorMoneyPad
namespace Go.Proofs.YtpeponjggbbjpaaDoor
open Go.RowKit Mon

theorem c_add (a b c : Int) (t : Bool) (ha : InR a) (hb : InR b) (h : addM a b = (c, t)) (W : World) : Calls Tryd.prog 7 #[.int .i64 a, .int .i64 b] W fun e w' => e = .returned (.tuple #[.int .i64 c, .bool t]) ∧ W = w' := by
  have := add_any a b W ha hb
  rw [h] at this
  exact this
theorem c_neg (a c : Int) (t : Bool) (ha : InR a) (h : subM 0 a = (c, t)) (W : World) : Calls Tryd.prog 11 #[.int .i64 a] W fun e w' => e = .returned (.tuple #[.int .i64 c, .bool t]) ∧ W = w' := by
  have := neg_any a W ha
  rw [h] at this
  exact this
theorem c_get (l : List UInt8) (c : Int) (t : Bool) (hl : l.length ≤ 100) (h : getM l = (c, t)) (W : World) (hM : MW W) : Calls Tryd.prog 16 #[.string ⟨l.toArray⟩] W fun e w' => e = .returned (.tuple #[.int .i64 c, .bool t]) ∧ Below W.heap.size W w' := by
  have := get_any ⟨l.toArray⟩ W (by show l.toArray.size ≤ _; simp; omega) hM
  rw [show (⟨l.toArray⟩ : ByteArray).data.toList = l by simp, h] at this
  exact this
theorem c_unpad (l : List UInt8) (c : Int) (t : Bool) (h : unpadM l = (c, t)) (W : World) : Calls Tryd.prog 18 #[.string ⟨l.toArray⟩] W fun e w' => e = .returned (.tuple #[.int .i64 c, .bool t]) ∧ W = w' := by
  have := unpad_any ⟨l.toArray⟩ W
  rw [show (⟨l.toArray⟩ : ByteArray).data.toList = l by simp, h] at this
  exact this
theorem c_put (n : Int) (l : List UInt8) (hn : InR n) (h : Lib.itoa n = l) (W : World) (hM : MW W) : Calls Tryd.prog 20 #[.int .i64 n] W fun e w' => e = .returned (.string ⟨l.toArray⟩) ∧ Below W.heap.size W w' := by
  have := put_any n W hn hM
  rw [h] at this
  exact this
theorem c_pad (n k : Int) (l : List UInt8) (hn : InR n) (h : padM n k = l) (W : World) (hM : MW W) : Calls Tryd.prog 14 #[.int .i64 n, .int .i64 k] W fun e w' => e = .returned (.string ⟨l.toArray⟩) ∧ Below W.heap.size W w' := by
  have := pad_any n k W hn hM
  rw [h] at this
  exact this
theorem c_is (a : Int) (t : Bool) (W : World) : Calls Tryd.prog 12 #[.int .i64 a, .bool t, .int .i64 a, .bool t] W fun e w' => e = .returned (.bool true) ∧ W = w' := by
  have := is_any a a t t W
  simpa using this

set_option maxHeartbeats 4000000 in
theorem counted_true (w : World) (hM : MW w) : Calls Tryd.prog 13 #[] w fun e w' => e = .returned (.bool true) ∧ Below w.heap.size w w' := by
  have HM := Lib.hid hM
  clear hM
  go_enter Tryd.func13, Tryd.ntmps13
  go_wp2_with fail
  refine (c_add 2 (-5) (-3) true (by decide) (by decide) (by decide) _).mono ?_
  rintro e w0 ⟨rfl, hw⟩; obtain rfl : w = w0 := hw
  go_wp2_with fail
  refine (c_add 9223372036854775807 1 0 false (by decide) (by decide) (by decide) _).mono ?_
  rintro e w0 ⟨rfl, hw⟩; obtain rfl : w = w0 := hw
  go_wp2_with fail
  refine (c_neg (-9223372036854775808) 0 false (by decide) (by decide) _).mono ?_
  rintro e w0 ⟨rfl, hw⟩; obtain rfl : w = w0 := hw
  go_wp2_with fail
  refine (c_get [45, 48] 0 false (by decide) (by decide +kernel) _ HM.out).mono ?_
  rintro e w1 ⟨rfl, hb⟩; have HB1 := Lib.hid hb; clear hb
  go_wp2_with fail
  refine (c_get [48, 48, 55] 0 false (by decide) (by decide +kernel) _ (HM.out.below HB1.out)).mono ?_
  rintro e w2 ⟨rfl, hb⟩; have HB2 := Lib.hid (bch HB1.out hb HB1.out.size); clear hb
  go_wp2_with fail
  refine (c_get [43, 49] 0 false (by decide) (by decide +kernel) _ (HM.out.below HB2.out)).mono ?_
  rintro e w3 ⟨rfl, hb⟩; have HB3 := Lib.hid (bch HB2.out hb HB2.out.size); clear hb
  go_wp2_with fail
  refine (c_unpad [48, 48, 48, 52, 50] 42 true (by decide) _).mono ?_
  rintro e w0 ⟨rfl, hw⟩; obtain rfl : w3 = w0 := hw
  go_wp2_with fail
  refine (c_unpad [] 0 false (by decide) _).mono ?_
  rintro e w0 ⟨rfl, hw⟩; obtain rfl : w3 = w0 := hw
  go_wp2_with fail
  refine (c_unpad [49, 50, 51, 52, 53, 54, 55, 56, 57, 48, 49, 50, 51, 52, 53, 54, 55, 56, 57] 0 false (by decide) _).mono ?_
  rintro e w0 ⟨rfl, hw⟩; obtain rfl : w3 = w0 := hw
  go_wp2_with (first
    | (go_at_call 12; refine (c_is _ _ _).mono ?_; rintro e w0 ⟨rfl, hw⟩; subst hw))
  refine (c_put (-120) [45, 49, 50, 48] (by decide) (by decide +kernel) _ (HM.out.below HB3.out)).mono ?_
  rintro e w4 ⟨rfl, hb⟩; have HB4 := Lib.hid (bch HB3.out hb HB3.out.size); clear hb
  go_wp2_with (first
    | (go_at_call 12; refine (c_is _ _ _).mono ?_; rintro e w0 ⟨rfl, hw⟩; subst hw))
  refine (c_pad 42 5 [48, 48, 48, 52, 50] (by decide) (by decide +kernel) _ (HM.out.below HB4.out)).mono ?_
  rintro e w5 ⟨rfl, hb⟩; have HB5 := Lib.hid (bch HB4.out hb HB4.out.size); clear hb
  go_wp2_with fail
  refine (c_pad 42 1 [] (by decide) (by decide +kernel) _ (HM.out.below HB5.out)).mono ?_
  rintro e w6 ⟨rfl, hb⟩; have HB6 := Lib.hid (bch HB5.out hb HB5.out.size); clear hb
  go_wp2_with (first
    | (go_at_call 12; refine (c_is _ _ _).mono ?_; rintro e w0 ⟨rfl, hw⟩; subst hw))
  go_ret
  exact ⟨rfl, HB6.out⟩
end Go.Proofs.YtpeponjggbbjpaaDoor
