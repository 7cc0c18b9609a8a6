/- The walk of consignorlaw10.KeysUndo: it answers true, and nothing that was there is written. -/
import Derived.Test.YtnakicbdljffeaaDoorKeysLawTell
namespace Go.Proofs.YtnakicbdljffeaaDoor
open Go.RowKit Key Mon

theorem undo_party {d : Int} (h : 3 ≤ d ∧ d ≤ 5) : partyI (d - 3) = partyI d ∧ 0 ≤ partyI d := by
  have : d = 3 ∨ d = 4 ∨ d = 5 := by omega
  rcases this with rfl | rfl | rfl <;> decide
theorem undo_yes {d : Int} (h : 3 ≤ d ∧ d ≤ 5) : undoI d = (d - 3, true) := by unfold undoI; rw [if_pos h]
theorem undo_no {d : Int} (h : ¬ (3 ≤ d ∧ d ≤ 5)) : undoI d = (0, false) := by unfold undoI; rw [if_neg h]
/-- How many there are so far. -/
def manyI (n k : Int) : Int := if n + 3 < k then 1 else 0
theorem k_word (d : Int) (L : List UInt8) (h : wordL d = L) (W : World) (hK : KW W) : Calls Tryd.prog 11 #[.int .i64 d] W fun e w' => e = .returned (.string ⟨L.toArray⟩) ∧ Below W.heap.size W w' := by
  have := word_any d W hK
  rw [h] at this
  exact this
theorem k_deedL (l : List UInt8) (c : Int) (t : Bool) (hl : l.length ≤ 100) (h : deedK l = (c, t)) (W : World) (hK : KW W) : Calls Tryd.prog 21 #[.string ⟨l.toArray⟩] W fun e w' => e = .returned (.tuple #[.int .i64 c, .bool t]) ∧ W = w' :=
  k_deed ⟨l.toArray⟩ c t (by show l.toArray.size ≤ _; unfold maxLen; simp; omega) (by rw [show (⟨l.toArray⟩ : ByteArray).data.toList = l by simp]; exact h) W hK

set_option maxHeartbeats 4000000 in
/-- Behind the first test. -/
theorem undo_rest (deed which : Int) (ok : Bool) (L : List UInt8) (c : Int) (t : Bool) (w : World) (HK : Hid (KW w))
    (HU : Hid (∀ W, Calls Tryd.prog 7 #[.int .i64 deed] W fun e w' => e = .returned (.tuple #[.int .i64 which, .bool ok]) ∧ W = w'))
    (HW : Hid (∀ W, KW W → Calls Tryd.prog 11 #[.int .i64 deed] W fun e w' => e = .returned (.string ⟨L.toArray⟩) ∧ Below W.heap.size W w'))
    (HD : Hid (∀ W, KW W → Calls Tryd.prog 21 #[.string ⟨L.toArray⟩] W fun e w' => e = .returned (.tuple #[.int .i64 c, .bool t]) ∧ W = w'))
    (HP1 : Hid (∀ W, KW W → Calls Tryd.prog 9 #[.int .i64 which] W fun e w' => e = .returned (.int .i64 (partyI which)) ∧ W = w'))
    (HP2 : Hid (∀ W, KW W → Calls Tryd.prog 9 #[.int .i64 deed] W fun e w' => e = .returned (.int .i64 (partyI deed)) ∧ W = w'))
    (hL : L.isEmpty = !t) (hc : t = true → c = deed) (h1 : ok = true → partyI which = partyI deed ∧ 0 ≤ partyI deed) (h2 : ok = false → which = 0) :
    Calls Tryd.prog 6 #[.int .i64 deed] w fun e w' => e = .returned (.bool true) ∧ Below w.heap.size w w' := by
  have H1 := Lib.hid h1; have H2 := Lib.hid h2; have HC := Lib.hid hc; have HL := Lib.hid hL
  clear h1 h2 hc hL
  cases ok with
  | true =>
    obtain ⟨q1, q2⟩ := H1.out rfl
    have q3 := bneF q1
    clear q1
    go_enter Tryd.func6, Tryd.ntmps6
    go_wp2_with fail
    refine (HU.out _).mono ?_
    rintro e w0 ⟨rfl, hw⟩; subst hw
    go_wp2_with fail
    refine (HP1.out _ HK.out).mono ?_
    rintro e w0 ⟨rfl, hw⟩; subst hw
    go_wp2_with fail
    refine (HP2.out _ HK.out).mono ?_
    rintro e w0 ⟨rfl, hw⟩; subst hw
    go_wp2_with fail
    refine (HP2.out _ HK.out).mono ?_
    rintro e w0 ⟨rfl, hw⟩; subst hw
    go_wp2_with fail
    go_loopw [5, 6, 7] (fun nv _ _ wr => ∃ n : Int, 0 ≤ n ∧ n ≤ 3 ∧ nv = .int .i64 n ∧ wr = w) (fun nv _ _ _ => (3 - intOf nv).toNat)
    case atStart => exact ⟨0, by omega, by omega, rfl, rfl⟩
    case round =>
      obtain ⟨n, hn1, hn2, rfl, rfl⟩ := hrel
      by_cases hlt : n ≤ 2
      · go_wp2_with fail
        go_loopw [6, 7] (fun mv kv wi => ∃ k : Int, -1 ≤ k ∧ k ≤ 8 ∧ kv = .int .i64 k ∧ mv = .int .i64 (manyI n k) ∧ wi = wr) (fun _ kv _ => (8 - intOf kv).toNat)
        case atStart => exact ⟨-1, by omega, by omega, rfl, by unfold manyI; rw [if_neg (by omega)], rfl⟩
        case round =>
          obtain ⟨k, hk1, hk2, rfl, rfl, rfl⟩ := hrel
          by_cases hk : k < 8
          · by_cases hy : 3 ≤ k ∧ k ≤ 5
            · have HUk := Lib.hid (k_undoes k (k - 3) true (by unfold InR; omega) (undo_yes hy))
              by_cases he : k - 3 = n
              · have HM := Lib.hid (show manyI n k = 0 ∧ manyI n (k + 1) = 1 by unfold manyI; rw [if_neg (by omega), if_pos (by omega)]; exact ⟨rfl, rfl⟩)
                rw [HM.out.1]
                have hb := beqT he
                clear he
                go_wp2_with fail
                refine (HUk.out _).mono ?_
                rintro e w0 ⟨rfl, hw⟩; subst hw
                go_wp2_with fail
                go_roundw
                case rel => exact ⟨k + 1, by omega, by omega, by go_num, by rw [HM.out.2], trivial⟩
                case measure => simp [intOf]; omega
              · have HM := Lib.hid (show manyI n (k + 1) = manyI n k by unfold manyI; by_cases h : n + 3 < k; rw [if_pos h, if_pos (by omega)]; rw [if_neg h, if_neg (by omega)])
                have hb := beqF he
                clear he
                go_wp2_with fail
                refine (HUk.out _).mono ?_
                rintro e w0 ⟨rfl, hw⟩; subst hw
                go_wp2_with fail
                go_roundw
                case rel => exact ⟨k + 1, by omega, by omega, by go_num, by rw [HM.out], trivial⟩
                case measure => simp [intOf]; omega
            · have HUk := Lib.hid (k_undoes k 0 false (by unfold InR; omega) (undo_no hy))
              have HM := Lib.hid (show manyI n (k + 1) = manyI n k by unfold manyI; by_cases h : n + 3 < k; rw [if_pos h, if_pos (by omega)]; rw [if_neg h, if_neg (by omega)])
              clear hy
              go_wp2_with fail
              refine (HUk.out _).mono ?_
              rintro e w0 ⟨rfl, hw⟩; subst hw
              go_wp2_with fail
              go_roundw
              case rel => exact ⟨k + 1, by omega, by omega, by go_num, by rw [HM.out], trivial⟩
              case measure => simp [intOf]; omega
          · obtain rfl : k = 8 := by omega
            rw [show manyI n 8 = 1 by unfold manyI; rw [if_pos (by omega)]]
            have HUk := Lib.hid (k_undoes n 0 false (by unfold InR; omega) (undo_no (by omega)))
            go_wp2_with fail
            refine (HUk.out _).mono ?_
            rintro e w0 ⟨rfl, hw⟩; subst hw
            go_wp2_with fail
            go_roundw
            case rel => exact ⟨n + 1, by omega, by omega, by go_num, trivial⟩
            case measure => simp [intOf]; omega
      · cases t with
        | true =>
          have hL := HL.out
          have hcd := beqT (HC.out rfl)
          go_wp2_with fail
          refine (HW.out _ HK.out).mono ?_
          rintro e w1 ⟨rfl, hb⟩
          have HB1 := Lib.hid hb
          clear hb
          go_wp2_with fail
          refine (HD.out _ (HK.out.below HB1.out)).mono ?_
          rintro e w0 ⟨rfl, hw⟩; subst hw
          go_wp2_with fail
          refine (HW.out _ (HK.out.below HB1.out)).mono ?_
          rintro e w2 ⟨rfl, hb⟩
          have HB2 := Lib.hid (bch HB1.out hb HB1.out.size)
          clear hb
          go_wp2_with fail
          refine (keyed_true _ (HK.out.below HB2.out)).mono ?_
          rintro e w3 ⟨rfl, hb⟩
          have HB3 := Lib.hid (bch HB2.out hb HB2.out.size)
          clear hb
          go_wp2_with fail
          go_ret
          exact ⟨rfl, HB3.out⟩
        | false =>
          have hL := HL.out
          go_wp2_with fail
          refine (HW.out _ HK.out).mono ?_
          rintro e w1 ⟨rfl, hb⟩
          have HB1 := Lib.hid hb
          clear hb
          go_wp2_with fail
          refine (HD.out _ (HK.out.below HB1.out)).mono ?_
          rintro e w0 ⟨rfl, hw⟩; subst hw
          go_wp2_with fail
          refine (HW.out _ (HK.out.below HB1.out)).mono ?_
          rintro e w2 ⟨rfl, hb⟩
          have HB2 := Lib.hid (bch HB1.out hb HB1.out.size)
          clear hb
          go_wp2_with fail
          refine (keyed_true _ (HK.out.below HB2.out)).mono ?_
          rintro e w3 ⟨rfl, hb⟩
          have HB3 := Lib.hid (bch HB2.out hb HB2.out.size)
          clear hb
          go_wp2_with fail
          go_ret
          exact ⟨rfl, HB3.out⟩
  | false =>
    obtain rfl := H2.out rfl
    go_enter Tryd.func6, Tryd.ntmps6
    go_wp2_with fail
    refine (HU.out _).mono ?_
    rintro e w0 ⟨rfl, hw⟩; subst hw
    go_wp2_with fail
    go_loopw [5, 6, 7] (fun nv _ _ wr => ∃ n : Int, 0 ≤ n ∧ n ≤ 3 ∧ nv = .int .i64 n ∧ wr = w) (fun nv _ _ _ => (3 - intOf nv).toNat)
    case atStart => exact ⟨0, by omega, by omega, rfl, rfl⟩
    case round =>
      obtain ⟨n, hn1, hn2, rfl, rfl⟩ := hrel
      by_cases hlt : n ≤ 2
      · go_wp2_with fail
        go_loopw [6, 7] (fun mv kv wi => ∃ k : Int, -1 ≤ k ∧ k ≤ 8 ∧ kv = .int .i64 k ∧ mv = .int .i64 (manyI n k) ∧ wi = wr) (fun _ kv _ => (8 - intOf kv).toNat)
        case atStart => exact ⟨-1, by omega, by omega, rfl, by unfold manyI; rw [if_neg (by omega)], rfl⟩
        case round =>
          obtain ⟨k, hk1, hk2, rfl, rfl, rfl⟩ := hrel
          by_cases hk : k < 8
          · by_cases hy : 3 ≤ k ∧ k ≤ 5
            · have HUk := Lib.hid (k_undoes k (k - 3) true (by unfold InR; omega) (undo_yes hy))
              by_cases he : k - 3 = n
              · have HM := Lib.hid (show manyI n k = 0 ∧ manyI n (k + 1) = 1 by unfold manyI; rw [if_neg (by omega), if_pos (by omega)]; exact ⟨rfl, rfl⟩)
                rw [HM.out.1]
                have hb := beqT he
                clear he
                go_wp2_with fail
                refine (HUk.out _).mono ?_
                rintro e w0 ⟨rfl, hw⟩; subst hw
                go_wp2_with fail
                go_roundw
                case rel => exact ⟨k + 1, by omega, by omega, by go_num, by rw [HM.out.2], trivial⟩
                case measure => simp [intOf]; omega
              · have HM := Lib.hid (show manyI n (k + 1) = manyI n k by unfold manyI; by_cases h : n + 3 < k; rw [if_pos h, if_pos (by omega)]; rw [if_neg h, if_neg (by omega)])
                have hb := beqF he
                clear he
                go_wp2_with fail
                refine (HUk.out _).mono ?_
                rintro e w0 ⟨rfl, hw⟩; subst hw
                go_wp2_with fail
                go_roundw
                case rel => exact ⟨k + 1, by omega, by omega, by go_num, by rw [HM.out], trivial⟩
                case measure => simp [intOf]; omega
            · have HUk := Lib.hid (k_undoes k 0 false (by unfold InR; omega) (undo_no hy))
              have HM := Lib.hid (show manyI n (k + 1) = manyI n k by unfold manyI; by_cases h : n + 3 < k; rw [if_pos h, if_pos (by omega)]; rw [if_neg h, if_neg (by omega)])
              clear hy
              go_wp2_with fail
              refine (HUk.out _).mono ?_
              rintro e w0 ⟨rfl, hw⟩; subst hw
              go_wp2_with fail
              go_roundw
              case rel => exact ⟨k + 1, by omega, by omega, by go_num, by rw [HM.out], trivial⟩
              case measure => simp [intOf]; omega
          · obtain rfl : k = 8 := by omega
            rw [show manyI n 8 = 1 by unfold manyI; rw [if_pos (by omega)]]
            have HUk := Lib.hid (k_undoes n 0 false (by unfold InR; omega) (undo_no (by omega)))
            go_wp2_with fail
            refine (HUk.out _).mono ?_
            rintro e w0 ⟨rfl, hw⟩; subst hw
            go_wp2_with fail
            go_roundw
            case rel => exact ⟨n + 1, by omega, by omega, by go_num, trivial⟩
            case measure => simp [intOf]; omega
      · cases t with
        | true =>
          have hL := HL.out
          have hcd := beqT (HC.out rfl)
          go_wp2_with fail
          refine (HW.out _ HK.out).mono ?_
          rintro e w1 ⟨rfl, hb⟩
          have HB1 := Lib.hid hb
          clear hb
          go_wp2_with fail
          refine (HD.out _ (HK.out.below HB1.out)).mono ?_
          rintro e w0 ⟨rfl, hw⟩; subst hw
          go_wp2_with fail
          refine (HW.out _ (HK.out.below HB1.out)).mono ?_
          rintro e w2 ⟨rfl, hb⟩
          have HB2 := Lib.hid (bch HB1.out hb HB1.out.size)
          clear hb
          go_wp2_with fail
          refine (keyed_true _ (HK.out.below HB2.out)).mono ?_
          rintro e w3 ⟨rfl, hb⟩
          have HB3 := Lib.hid (bch HB2.out hb HB2.out.size)
          clear hb
          go_wp2_with fail
          go_ret
          exact ⟨rfl, HB3.out⟩
        | false =>
          have hL := HL.out
          go_wp2_with fail
          refine (HW.out _ HK.out).mono ?_
          rintro e w1 ⟨rfl, hb⟩
          have HB1 := Lib.hid hb
          clear hb
          go_wp2_with fail
          refine (HD.out _ (HK.out.below HB1.out)).mono ?_
          rintro e w0 ⟨rfl, hw⟩; subst hw
          go_wp2_with fail
          refine (HW.out _ (HK.out.below HB1.out)).mono ?_
          rintro e w2 ⟨rfl, hb⟩
          have HB2 := Lib.hid (bch HB1.out hb HB1.out.size)
          clear hb
          go_wp2_with fail
          refine (keyed_true _ (HK.out.below HB2.out)).mono ?_
          rintro e w3 ⟨rfl, hb⟩
          have HB3 := Lib.hid (bch HB2.out hb HB2.out.size)
          clear hb
          go_wp2_with fail
          go_ret
          exact ⟨rfl, HB3.out⟩

theorem lawKeysUndo_walk (deed : Int) (w : World) (hd : InR deed) (hK : KW w) :
    Calls Tryd.prog 6 #[.int .i64 deed] w fun e w' => e = .returned (.bool true) ∧ Below w.heap.size w w' := by
  obtain ⟨L, hL⟩ : ∃ L, wordL deed = L := ⟨_, rfl⟩
  obtain ⟨c, t, hc⟩ : ∃ c t, deedK L = (c, t) := ⟨_, _, rfl⟩
  have hl : L.length ≤ 100 := by have := wordL_len deed; rw [hL] at this; omega
  have HW := Lib.hid (k_word deed L hL)
  have HD := Lib.hid (k_deedL L c t hl hc)
  have HP := fun (d : Int) => Lib.hid (fun W h => k_party d _ rfl W h)
  have hf : (L.isEmpty = !t) ∧ (t = true → c = deed) := by
    by_cases h : 0 ≤ deed ∧ deed < 6
    · have h1 := deed_word h
      rw [hL, hc] at h1
      injection h1 with h1 h2
      subst h1; subst h2
      refine ⟨?_, fun _ => rfl⟩
      have := word_ne h
      rw [hL] at this
      simpa using this
    · have h1 := word_no h
      rw [hL] at h1
      subst h1
      have : deedK [] = (0, false) := by decide
      rw [this] at hc
      injection hc with h1 h2
      subst h1; subst h2
      exact ⟨rfl, by simp⟩
  by_cases h : 3 ≤ deed ∧ deed ≤ 5
  · exact undo_rest deed (deed - 3) true L c t w (Lib.hid hK) (Lib.hid (k_undoes deed _ _ hd (undo_yes h))) HW HD (HP _) (HP _) hf.1 hf.2 (fun _ => undo_party h) (by simp)
  · exact undo_rest deed 0 false L c t w (Lib.hid hK) (Lib.hid (k_undoes deed _ _ hd (undo_no h))) HW HD (HP _) (HP _) hf.1 hf.2 (by simp) (fun _ => rfl)
end Go.Proofs.YtnakicbdljffeaaDoor
