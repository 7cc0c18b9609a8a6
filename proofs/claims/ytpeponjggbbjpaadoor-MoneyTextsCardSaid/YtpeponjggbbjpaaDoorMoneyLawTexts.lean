/- The walk of consignorlaw01.MoneyTexts: it answers true, and nothing that was there is written. -/
import Derived.Test.YtpeponjggbbjpaaDoorMoneyLawBack
import Derived.Test.YtpeponjggbbjpaaDoorMoneyRefGet
namespace Go.Proofs.YtpeponjggbbjpaaDoor
open Go.RowKit Mon

theorem e_get (s : ByteArray) (c : Int) (t : Bool) (h : getM s.data.toList = (c, t)) (W : World) : Calls Tryd.prog 17 #[.string s] W fun e w' => e = .returned (.tuple #[.int .i64 c, .bool t]) ∧ Below W.heap.size W w' := by
  have := refGet_any s W
  rw [h] at this
  exact this
theorem e_unpad (s : ByteArray) (c : Int) (t : Bool) (h : unpadM s.data.toList = (c, t)) (W : World) : Calls Tryd.prog 18 #[.string s] W fun e w' => e = .returned (.tuple #[.int .i64 c, .bool t]) ∧ W = w' := by
  have := unpad_any s W
  rw [h] at this
  exact this
theorem e_refUnpad (s : ByteArray) (c : Int) (t : Bool) (h : unpadM s.data.toList = (c, t)) (W : World) : Calls Tryd.prog 19 #[.string s] W fun e w' => e = .returned (.tuple #[.int .i64 c, .bool t]) ∧ W = w' := by
  have := refUnpad_any s W
  rw [h] at this
  exact this

set_option maxHeartbeats 4000000 in
theorem lawMoneyTexts_walk (n width : Int) (s : ByteArray) (w : World) (hn : InR n) (hw : InR width) (hM : MW w) :
    Calls Tryd.prog 4 #[.int .i64 n, .int .i64 width, .string s] w fun e w' => e = .returned (.bool true) ∧ Below w.heap.size w w' := by
  have HM := Lib.hid hM
  have HN := Lib.hid hn
  have HWI := Lib.hid hw
  clear hM hn hw
  by_cases hl : (300 : Int) < (s.size : Int)
  · have HC := Lib.hid (counted_true w HM.out)
    go_enter Tryd.func4, Tryd.ntmps4
    go_wp2_with fail
    refine HC.out.mono ?_
    rintro e w1 ⟨rfl, hb⟩
    have HB := Lib.hid hb
    clear hb
    go_wp2_with fail
    go_ret
    exact ⟨rfl, HB.out⟩
  · obtain ⟨c1, t1, h1⟩ : ∃ c t, getM s.data.toList = (c, t) := ⟨_, _, rfl⟩
    obtain ⟨c2, t2, h2⟩ : ∃ c t, unpadM s.data.toList = (c, t) := ⟨_, _, rfl⟩
    have H1 := Lib.hid (d_get s (by omega) c1 t1 h1)
    have H2 := Lib.hid (e_get s c1 t1 h1)
    have H3 := Lib.hid (e_unpad s c2 t2 h2)
    have H4 := Lib.hid (e_refUnpad s c2 t2 h2)
    have HP1 := Lib.hid (fun (k : Int) W hM => pad_any n k W HN.out hM)
    have HP2 := Lib.hid (fun (k : Int) W (hk : InR k) => refPad_any n k W HN.out hk)
    have HQ1 := Lib.hid (fun W hM => put_any n W HN.out hM)
    have HQ2 := Lib.hid (fun W => refPut_any n W HN.out)
    clear h1 h2
    go_enter Tryd.func4, Tryd.ntmps4
    go_wp2_with fail
    go_loopw [7] (fun i wr => ∃ j : Int, -1 ≤ j ∧ j ≤ 21 ∧ i = .int .i64 j ∧ Hid (Below w.heap.size w wr)) (fun i _ => (21 - intOf i).toNat)
    case atStart => exact ⟨-1, by omega, by omega, rfl, Below.refl _ _⟩
    case round =>
      obtain ⟨j, hj1, hj2, rfl, HW⟩ := hrel
      by_cases hlt : j < 21
      · go_wp2_with fail
        refine (HP1.out j wr (HM.out.below HW.out)).mono ?_
        rintro e w1 ⟨rfl, hb⟩
        have HB1 := Lib.hid (bch HW.out hb HW.out.size)
        clear hb
        go_wp2_with fail
        refine (HP2.out j w1 (by unfold InR; omega)).mono ?_
        rintro e w2 ⟨rfl, hb⟩
        have HB2 := Lib.hid (bch HB1.out hb HB1.out.size)
        clear hb
        generalize padM n j = L
        go_wp2_with fail
        go_roundw
        case rel => exact ⟨j + 1, by omega, by omega, by go_num, HB2⟩
        case measure => simp [intOf]; omega
      · go_wp2_with fail
        refine (H1.out wr (HM.out.below HW.out)).mono ?_
        rintro e w1 ⟨rfl, hb⟩
        have HB1 := Lib.hid (bch HW.out hb HW.out.size)
        clear hb
        go_wp2_with fail
        refine (H2.out _).mono ?_
        rintro e w2 ⟨rfl, hb⟩
        have HB2 := Lib.hid (bch HB1.out hb HB1.out.size)
        clear hb
        go_wp2_with fail
        refine (H3.out _).mono ?_
        rintro e w0 ⟨rfl, hw⟩; obtain rfl : w2 = w0 := hw
        go_wp2_with fail
        refine (H4.out _).mono ?_
        rintro e w0 ⟨rfl, hw⟩; obtain rfl : w2 = w0 := hw
        go_wp2_with fail
        refine (HQ1.out _ (HM.out.below HB2.out)).mono ?_
        rintro e w3 ⟨rfl, hb⟩
        have HB3 := Lib.hid (bch HB2.out hb HB2.out.size)
        clear hb
        go_wp2_with fail
        refine (HQ2.out _).mono ?_
        rintro e w4 ⟨rfl, hb⟩
        have HB4 := Lib.hid (bch HB3.out hb HB3.out.size)
        clear hb
        generalize Lib.itoa n = L1
        go_wp2_with fail
        refine (HP1.out width _ (HM.out.below HB4.out)).mono ?_
        rintro e w5 ⟨rfl, hb⟩
        have HB5 := Lib.hid (bch HB4.out hb HB4.out.size)
        clear hb
        go_wp2_with fail
        refine (HP2.out width _ HWI.out).mono ?_
        rintro e w6 ⟨rfl, hb⟩
        have HB6 := Lib.hid (bch HB5.out hb HB5.out.size)
        clear hb
        generalize padM n width = L2
        go_wp2_with fail
        refine (c_is _ _ _).mono ?_
        rintro e w0 ⟨rfl, hw⟩; obtain rfl : w6 = w0 := hw
        go_wp2_with fail
        refine (c_is _ _ _).mono ?_
        rintro e w0 ⟨rfl, hw⟩; obtain rfl : w6 = w0 := hw
        have HC := Lib.hid (counted_true w6 (HM.out.below HB6.out))
        go_wp2_with fail
        refine HC.out.mono ?_
        rintro e w7 ⟨rfl, hb⟩
        have HB7 := Lib.hid (bch HB6.out hb HB6.out.size)
        clear hb
        go_wp2_with fail
        go_ret
        exact ⟨rfl, HB7.out⟩
end Go.Proofs.YtpeponjggbbjpaaDoor
