/- The walk of consignorlaw01.MoneyBack: it answers true, and nothing that was there is written. -/
import Derived.Test.YtpeponjggbbjpaaDoorMoneyCounted
namespace Go.Proofs.YtpeponjggbbjpaaDoor
open Go.RowKit Mon

theorem d_put (n : Int) (hn : InR n) (W : World) (hM : MW W) : Calls Tryd.prog 20 #[.int .i64 n] W fun e w' => e = .returned (.string ⟨(Lib.itoa n).toArray⟩) ∧ Below W.heap.size W w' := put_any n W hn hM
theorem d_get (s : ByteArray) (hs : s.size ≤ 1000000) (c : Int) (t : Bool) (h : getM s.data.toList = (c, t)) (W : World) (hM : MW W) : Calls Tryd.prog 16 #[.string s] W fun e w' => e = .returned (.tuple #[.int .i64 c, .bool t]) ∧ Below W.heap.size W w' := by
  have := get_any s W hs hM
  rw [h] at this
  exact this

theorem d_pad (n k : Int) (l : List UInt8) (hn : InR n) (h : padM n k = l) (W : World) (hM : MW W) : Calls Tryd.prog 14 #[.int .i64 n, .int .i64 k] W fun e w' => e = .returned (.string ⟨l.toArray⟩) ∧ Below W.heap.size W w' := by
  have := pad_any n k W hn hM
  rw [h] at this
  exact this
namespace Mon
theorem val_zeros (c : Nat) (l : List UInt8) : valFrom 0 (List.replicate c 48 ++ l) = valFrom 0 l := by
  induction c with
  | zero => rfl
  | succ c ih => rw [List.replicate_succ, List.cons_append]; exact ih
theorem unpad_pad (c u : Nat) (h : c + (Lib.decDigits u).length ≤ 18) : unpadM (List.replicate c 48 ++ Lib.decDigits u) = ((u : Int), true) := by
  have := dec_ne_nil u
  rw [unpadM_ok (by simp [this]) (by simp; omega) (fun d hd => by
    rcases List.mem_append.1 hd with hd | hd
    · rw [(List.mem_replicate.1 hd).2]; decide
    · exact dec_digit u d hd), val_zeros, val_dec]
end Mon

set_option maxHeartbeats 4000000 in
theorem lawMoneyBack_walk (n : Int) (k : Nat) (s : ByteArray) (w : World) (hn : InR n) (hk : k < 256) (hM : MW w) :
    Calls Tryd.prog 5 #[.int .i64 n, .int .u8 k, .string s] w fun e w' => e = .returned (.bool true) ∧ Below w.heap.size w w' := by
  have HM := Lib.hid hM
  have HN := Lib.hid hn
  clear hM hn
  by_cases hl : (100 : Int) < (s.size : Int)
  · have HC := Lib.hid (counted_true w HM.out)
    go_enter Tryd.func5, Tryd.ntmps5
    go_wp2_with fail
    refine HC.out.mono ?_
    rintro e w1 ⟨rfl, hb⟩
    have HB := Lib.hid hb
    clear hb
    go_wp2_with fail
    go_ret
    exact ⟨rfl, HB.out⟩
  · have hpc : (n < 0 ∧ padM n ((k : Int) % 18 + 1) = []) ∨ (¬ n < 0 ∧ (k : Int) % 18 + 1 < ((Lib.itoa n).length : Int) ∧ padM n ((k : Int) % 18 + 1) = []) ∨ (∃ c u : Nat, n = (u : Int) ∧ padM n ((k : Int) % 18 + 1) = List.replicate c 48 ++ Lib.decDigits u ∧ c + (Lib.decDigits u).length ≤ 18 ∧ ((c + (Lib.decDigits u).length : Nat) : Int) = (k : Int) % 18 + 1) := by
      by_cases h1 : n < 0
      · exact .inl ⟨h1, padM_no (.inl h1)⟩
      · by_cases h2 : (k : Int) % 18 + 1 < ((Lib.itoa n).length : Int)
        · exact .inr (.inl ⟨h1, h2, padM_no (by omega)⟩)
        · obtain ⟨u, rfl⟩ : ∃ u : Nat, n = (u : Int) := ⟨n.toNat, by omega⟩
          rw [Lib.itoa_nonneg] at h2
          refine .inr (.inr ⟨((k : Int) % 18 + 1).toNat - (Lib.decDigits u).length, u, rfl, ?_, by omega, by omega⟩)
          unfold padM
          rw [Lib.itoa_nonneg, if_neg (by omega)]
    have HP := Lib.hid (d_put n HN.out w HM.out)
    have hil := Lib.itoa_length_le n HN.out.1 HN.out.2
    have HG := Lib.hid (d_get ⟨(Lib.itoa n).toArray⟩ (by show (Lib.itoa n).toArray.size ≤ _; simp; omega) n true (by show getM (Lib.itoa n).toArray.toList = _; rw [show (Lib.itoa n).toArray.toList = Lib.itoa n by simp]; exact getM_itoa n HN.out))
    clear hil
    go_enter Tryd.func5, Tryd.ntmps5
    go_wp2_with fail
    refine HP.out.mono ?_
    rintro e w1 ⟨rfl, hb⟩
    have HB1 := Lib.hid hb
    clear hb
    go_wp2_with fail
    refine (HG.out _ (HM.out.below HB1.out)).mono ?_
    rintro e w2 ⟨rfl, hb⟩
    have HB2 := Lib.hid (bch HB1.out hb HB1.out.size)
    clear hb
    go_wp2_with fail
    rcases getM_cases s.data.toList with ⟨m, hm, hme, hmg⟩ | ⟨_, hmg⟩
    · have HGs := Lib.hid (d_get s (by omega) m true hmg w2 (HM.out.below HB2.out))
      have HPm := Lib.hid (d_put m hm)
      have q := itoaT _ s hme
      clear hme hmg hm
      refine HGs.out.mono ?_
      rintro e w3 ⟨rfl, hb⟩
      have HB3 := Lib.hid (bch HB2.out hb HB2.out.size)
      clear hb
      go_wp2_with fail
      refine (HPm.out _ (HM.out.below HB3.out)).mono ?_
      rintro e w4 ⟨rfl, hb⟩
      have HB4 := Lib.hid (bch HB3.out hb HB3.out.size)
      clear hb
      go_wp2_with fail
      rcases hpc with ⟨hng, hpe⟩ | ⟨hng, hgt, hpe⟩ | ⟨c, u, rfl, hpe, hlen, hw⟩
      · have HPad := Lib.hid (d_pad n _ _ HN.out hpe w4 (HM.out.below HB4.out))
        clear hpe
        refine HPad.out.mono ?_
        rintro e w5 ⟨rfl, hb⟩
        have HB5 := Lib.hid (bch HB4.out hb HB4.out.size)
        have HC := Lib.hid (counted_true w5 (HM.out.below HB5.out))
        clear hb
        go_wp2_with fail
        refine HC.out.mono ?_
        rintro e w6 ⟨rfl, hb⟩
        have HB6 := Lib.hid (bch HB5.out hb HB5.out.size)
        clear hb
        go_wp2_with fail
        go_ret
        exact ⟨rfl, HB6.out⟩
      · have HPad := Lib.hid (d_pad n _ _ HN.out hpe w4 (HM.out.below HB4.out))
        clear hpe
        refine HPad.out.mono ?_
        rintro e w5 ⟨rfl, hb⟩
        have HB5 := Lib.hid (bch HB4.out hb HB4.out.size)
        have HPn := Lib.hid (d_put n HN.out w5 (HM.out.below HB5.out))
        generalize Lib.itoa n = L at HPn hgt
        clear hb
        go_wp2_with fail
        refine HPn.out.mono ?_
        rintro e w6 ⟨rfl, hb⟩
        have HB6 := Lib.hid (bch HB5.out hb HB5.out.size)
        have HC := Lib.hid (counted_true w6 (HM.out.below HB6.out))
        clear hb
        go_wp2_with fail
        refine HC.out.mono ?_
        rintro e w7 ⟨rfl, hb⟩
        have HB7 := Lib.hid (bch HB6.out hb HB6.out.size)
        clear hb
        go_wp2_with fail
        go_ret
        exact ⟨rfl, HB7.out⟩
      · have HPad := Lib.hid (d_pad u _ _ HN.out hpe w4 (HM.out.below HB4.out))
        have HU := Lib.hid (c_unpad _ _ _ (unpad_pad c u hlen))
        have hne : (List.replicate c 48 ++ Lib.decDigits u).isEmpty = false := by have := dec_ne_nil u; simp [this]
        have hln : ((List.replicate c 48 ++ Lib.decDigits u).length : Int) = (k : Int) % 18 + 1 := by rw [List.length_append, List.length_replicate]; exact hw
        clear hpe hlen hw
        generalize (List.replicate c 48 ++ Lib.decDigits u) = L at HPad HU hne hln
        have hlb := beqT hln
        have HLN := Lib.hid hln
        clear hln
        refine HPad.out.mono ?_
        rintro e w5 ⟨rfl, hb⟩
        have HB5 := Lib.hid (bch HB4.out hb HB4.out.size)
        have HC := Lib.hid (counted_true w5 (HM.out.below HB5.out))
        clear hb
        go_wp2_with fail
        refine (HU.out _).mono ?_
        rintro e w6 ⟨rfl, hw⟩
        obtain rfl : w5 = w6 := hw
        go_wp2_with fail
        refine HC.out.mono ?_
        rintro e w7 ⟨rfl, hb⟩
        have HB7 := Lib.hid (bch HB5.out hb HB5.out.size)
        clear hb
        go_wp2_with fail
        go_ret
        exact ⟨rfl, HB7.out⟩
    · have HGs := Lib.hid (d_get s (by omega) 0 false hmg w2 (HM.out.below HB2.out))
      clear hmg
      refine HGs.out.mono ?_
      rintro e w4 ⟨rfl, hb⟩
      have HB4 := Lib.hid (bch HB2.out hb HB2.out.size)
      clear hb
      go_wp2_with fail
      rcases hpc with ⟨hng, hpe⟩ | ⟨hng, hgt, hpe⟩ | ⟨c, u, rfl, hpe, hlen, hw⟩
      · have HPad := Lib.hid (d_pad n _ _ HN.out hpe w4 (HM.out.below HB4.out))
        clear hpe
        refine HPad.out.mono ?_
        rintro e w5 ⟨rfl, hb⟩
        have HB5 := Lib.hid (bch HB4.out hb HB4.out.size)
        have HC := Lib.hid (counted_true w5 (HM.out.below HB5.out))
        clear hb
        go_wp2_with fail
        refine HC.out.mono ?_
        rintro e w6 ⟨rfl, hb⟩
        have HB6 := Lib.hid (bch HB5.out hb HB5.out.size)
        clear hb
        go_wp2_with fail
        go_ret
        exact ⟨rfl, HB6.out⟩
      · have HPad := Lib.hid (d_pad n _ _ HN.out hpe w4 (HM.out.below HB4.out))
        clear hpe
        refine HPad.out.mono ?_
        rintro e w5 ⟨rfl, hb⟩
        have HB5 := Lib.hid (bch HB4.out hb HB4.out.size)
        have HPn := Lib.hid (d_put n HN.out w5 (HM.out.below HB5.out))
        generalize Lib.itoa n = L at HPn hgt
        clear hb
        go_wp2_with fail
        refine HPn.out.mono ?_
        rintro e w6 ⟨rfl, hb⟩
        have HB6 := Lib.hid (bch HB5.out hb HB5.out.size)
        have HC := Lib.hid (counted_true w6 (HM.out.below HB6.out))
        clear hb
        go_wp2_with fail
        refine HC.out.mono ?_
        rintro e w7 ⟨rfl, hb⟩
        have HB7 := Lib.hid (bch HB6.out hb HB6.out.size)
        clear hb
        go_wp2_with fail
        go_ret
        exact ⟨rfl, HB7.out⟩
      · have HPad := Lib.hid (d_pad u _ _ HN.out hpe w4 (HM.out.below HB4.out))
        have HU := Lib.hid (c_unpad _ _ _ (unpad_pad c u hlen))
        have hne : (List.replicate c 48 ++ Lib.decDigits u).isEmpty = false := by have := dec_ne_nil u; simp [this]
        have hln : ((List.replicate c 48 ++ Lib.decDigits u).length : Int) = (k : Int) % 18 + 1 := by rw [List.length_append, List.length_replicate]; exact hw
        clear hpe hlen hw
        generalize (List.replicate c 48 ++ Lib.decDigits u) = L at HPad HU hne hln
        have hlb := beqT hln
        have HLN := Lib.hid hln
        clear hln
        refine HPad.out.mono ?_
        rintro e w5 ⟨rfl, hb⟩
        have HB5 := Lib.hid (bch HB4.out hb HB4.out.size)
        have HC := Lib.hid (counted_true w5 (HM.out.below HB5.out))
        clear hb
        go_wp2_with fail
        refine (HU.out _).mono ?_
        rintro e w6 ⟨rfl, hw⟩
        obtain rfl : w5 = w6 := hw
        go_wp2_with fail
        refine HC.out.mono ?_
        rintro e w7 ⟨rfl, hb⟩
        have HB7 := Lib.hid (bch HB5.out hb HB5.out.size)
        clear hb
        go_wp2_with fail
        go_ret
        exact ⟨rfl, HB7.out⟩
end Go.Proofs.YtpeponjggbbjpaaDoor
