/- consignorlaw10.keyed: the chapter's examples hold. -/
import Derived.Test.YtnakicbdljffeaaDoorKeysRefGet
namespace Go.Proofs.YtnakicbdljffeaaDoor
open Go.RowKit Key Mon

theorem k_got (l : List UInt8) (o d : Int) (t : Bool) (hl : l.length ≤ 1000) (h : getK l = ((o, d), t)) (W : World) (hK : KW W) : Calls Tryd.prog 23 #[.string ⟨l.toArray⟩, .agg #[.int .i64 o, .int .i64 d], .bool t] W fun e w' => e = .returned (.bool true) ∧ Below W.heap.size W w' := by
  have := got_any ⟨l.toArray⟩ o d t W (by show l.toArray.size ≤ _; simp; omega) hK
  rw [show (⟨l.toArray⟩ : ByteArray).data.toList = l by simp, h, decide_eq_true rfl] at this
  exact this
theorem k_put (o d : Int) (l : List UInt8) (h : putK o d = l) (W : World) (hK : KW W) : Calls Tryd.prog 15 #[.agg #[.int .i64 o, .int .i64 d]] W fun e w' => e = .returned (.string ⟨l.toArray⟩) ∧ Below W.heap.size W w' := by
  have := putK_any o d W hK
  rw [h] at this
  exact this
theorem k_less (a b c d : Int) (t : Bool) (h : lessB a b c d = t) (W : World) : Calls Tryd.prog 17 #[.agg #[.int .i64 a, .int .i64 b], .agg #[.int .i64 c, .int .i64 d]] W fun e w' => e = .returned (.bool t) ∧ Below W.heap.size W w' := by
  have := less_any a b c d W
  rw [h] at this
  exact this
theorem k_undoes (d c : Int) (t : Bool) (hd : InR d) (h : undoI d = (c, t)) (W : World) : Calls Tryd.prog 7 #[.int .i64 d] W fun e w' => e = .returned (.tuple #[.int .i64 c, .bool t]) ∧ W = w' := by
  have := undoes_any d W hd
  rw [h] at this
  exact this
theorem k_party (d c : Int) (h : partyI d = c) (W : World) (hK : KW W) : Calls Tryd.prog 9 #[.int .i64 d] W fun e w' => e = .returned (.int .i64 c) ∧ W = w' := by
  have := party_any d W hK
  rw [h] at this
  exact this

set_option maxHeartbeats 4000000 in
theorem keyed_true (w : World) (hK : KW w) : Calls Tryd.prog 19 #[] w fun e w' => e = .returned (.bool true) ∧ Below w.heap.size w w' := by
  have HK := Lib.hid hK
  clear hK
  go_enter Tryd.func19, Tryd.ntmps19
  go_wp2_with fail
  refine (k_undoes 5 2 true (by decide) (by decide) _).mono ?_
  rintro e w0 ⟨rfl, hw⟩; subst hw
  go_wp2_with fail
  refine (k_undoes 2 0 false (by decide) (by decide) _).mono ?_
  rintro e w0 ⟨rfl, hw⟩; subst hw
  go_wp2_with fail
  have HB0 := Lib.hid (below_alloc w (.cells #[.int .i64 12, .int .i64 4] 23))
  refine (k_put 12 4 [49, 50, 45, 114, 101, 102, 117, 110, 100] (by decide +kernel) _ (HK.out.below HB0.out)).mono ?_
  rintro e w1 ⟨rfl, hb⟩; have HB1 := Lib.hid (bch HB0.out hb (by simp)); obtain ⟨c0, c1, hz⟩ := cells2 hb; clear hb
  go_wp2_with fail
  refine (k_got [49, 50, 45, 114, 101, 102, 117, 110, 100] 12 4 true (by decide) (by decide +kernel) _ (HK.out.below HB1.out)).mono ?_
  rintro e w2 ⟨rfl, hb⟩; have HB2 := Lib.hid (bch HB1.out hb HB1.out.size); clear hb
  go_wp2_with fail
  refine (k_got [48, 49, 50, 45, 114, 101, 102, 117, 110, 100] 0 0 false (by decide) (by decide +kernel) _ (HK.out.below HB2.out)).mono ?_
  rintro e w3 ⟨rfl, hb⟩; have HB3 := Lib.hid (bch HB2.out hb HB2.out.size); clear hb
  go_wp2_with fail
  refine (k_got [54, 49, 45, 115, 104, 105, 112] 0 0 false (by decide) (by decide +kernel) _ (HK.out.below HB3.out)).mono ?_
  rintro e w4 ⟨rfl, hb⟩; have HB4 := Lib.hid (bch HB3.out hb HB3.out.size); clear hb
  go_wp2_with fail
  refine (k_party 2 2 (by decide) _ (HK.out.below HB4.out)).mono ?_
  rintro e w0 ⟨rfl, hw⟩; subst hw
  go_wp2_with fail
  refine (k_party 9 (-1) (by decide) _ (HK.out.below HB4.out)).mono ?_
  rintro e w0 ⟨rfl, hw⟩; subst hw
  go_wp2_with fail
  refine (k_less 1 5 2 0 true (by decide) _).mono ?_
  rintro e w5 ⟨rfl, hb⟩; have HB5 := Lib.hid (bch HB4.out hb HB4.out.size); clear hb
  go_wp2_with fail
  refine (k_less 2 0 2 0 false (by decide) _).mono ?_
  rintro e w6 ⟨rfl, hb⟩; have HB6 := Lib.hid (bch HB5.out hb HB5.out.size); clear hb
  go_wp2_with fail
  go_ret
  exact ⟨rfl, HB6.out⟩
end Go.Proofs.YtnakicbdljffeaaDoor
