/- The document's Unpad: what it computes. -/
import Derived.Test.YtpeponjggbbjpaaDoorMoneyRef
namespace Go.Proofs.YtpeponjggbbjpaaDoor
open Go.RowKit Mon

set_option maxHeartbeats 1000000 in
theorem refUnpad_any (s : ByteArray) (w : World) :
    Calls Tryd.prog 19 #[.string s] w fun e w' => e = .returned (pairV (unpadM s.data.toList)) ∧ w = w' := by
  have hz := size_len s
  obtain ⟨R, hR⟩ : ∃ R, unpadM s.data.toList = R := ⟨_, rfl⟩
  obtain ⟨x, y⟩ := R
  rw [hR]
  unfold pairV
  have HR := Lib.hid hR
  clear hR
  go_enter Tryd.func19, Tryd.ntmps19
  go_wp2_with fail
  go_loopw [4, 5] (fun nv i wr => ∃ (j v : Nat), j ≤ s.size ∧ j ≤ 18 ∧ i = .int .i64 j ∧ nv = .int .i64 v ∧ Hid (v = valFrom 0 (s.data.toList.take j)) ∧ Hid (∀ c ∈ s.data.toList.take j, Digit c) ∧ wr = w) (fun _ i _ => s.size - (intOf i).toNat)
  case atStart => exact ⟨0, 0, Nat.zero_le _, by omega, rfl, rfl, rfl, fun c hc => by simp at hc, rfl⟩
  case round =>
    obtain ⟨j, v, hj, hj18, rfl, rfl, HV, HD, rfl⟩ := hrel
    by_cases hlt : j < s.size
    · by_cases hd : Digit s[j]
      · obtain ⟨hd1, hd2⟩ := hd
        have hva := valFrom_lt (s.data.toList.take j) 0 0 HD.out (by decide)
        rw [← HV.out, List.length_take, Nat.min_eq_left (by omega), Nat.zero_add] at hva
        have hvb : 10 ^ j ≤ 1000000000000000000 := Nat.le_trans (Nat.pow_le_pow_right (by omega) hj18) (by decide)
        have hvc : v < 1000000000000000000 := Nat.lt_of_lt_of_le hva hvb
        have c1 : ¬ (s[j].toNat : Int) < 48 := by omega
        have c2 : ¬ (57 : Int) < (s[j].toNat : Int) := by omega
        have HS := Lib.hid (take_snoc s j hlt)
        clear hva hvb
        by_cases h17 : 17 < j
        · have HNO := Lib.hid (HR.out.symm.trans (unpadM_no (l := s.data.toList) (.inr (.inl (by omega)))))
          go_wp2_with fail
          go_ret2
          exact ⟨ret_pair HNO.out, rfl⟩
        · have hvb' := valFrom_lt (s.data.toList.take j) 0 0 HD.out (by decide)
          rw [← HV.out, List.length_take, Nat.min_eq_left (by omega), Nat.zero_add] at hvb'
          have hvd : v < 100000000000000000 := Nat.lt_of_lt_of_le hvb' (pow17 j (by omega))
          clear hvb' hvc
          go_wp2_with fail
          go_roundw
          case rel =>
            refine ⟨j + 1, v * 10 + (s[j].toNat - 48), by omega, by omega, by go_num, ?_, ?_, ?_, trivial⟩
            · go_num
            · show _ = _
              rw [HS.out, valFrom_append, ← HV.out]
              rfl
            · intro c hc
              rw [HS.out] at hc
              rcases List.mem_append.1 hc with hc | hc
              · exact HD.out c hc
              · simp at hc
                subst hc
                exact ⟨hd1, hd2⟩
          case measure => simp [intOf]; omega
      · have HNO := Lib.hid (unpadM_no (l := s.data.toList) (.inr (.inr fun h => hd (h _ (get_mem s j hlt)))))
        have HXY := Lib.hid (HR.out.symm.trans HNO.out)
        by_cases c1 : (s[j].toNat : Int) < 48
        · go_wp2_with fail
          go_ret2
          exact ⟨ret_pair HXY.out, rfl⟩
        · have c2 : (57 : Int) < (s[j].toNat : Int) := by unfold Digit at hd; omega
          go_wp2_with fail
          go_ret2
          exact ⟨ret_pair HXY.out, rfl⟩
    · have hj' : j = s.size := by omega
      subst hj'
      by_cases h0 : s.size = 0
      · have HNO := Lib.hid (HR.out.symm.trans (unpadM_no (l := s.data.toList) (.inl (List.eq_nil_of_length_eq_zero (by omega)))))
        have HV0 := Lib.hid (show v = 0 by rw [HV.out, h0]; rfl)
        have hgt : ¬ (0 : Int) < (s.size : Int) := by omega
        have HZ := Lib.hid (show false = decide (0 < s.size) from (decide_eq_false (by omega)).symm)
        clear h0 hz
        go_wp2_with fail
        go_ret2
        exact ⟨ret_pair (by rw [HNO.out, HV0.out, ← HZ.out]; rfl), rfl⟩
      · have HOK := Lib.hid (unpadM_ok (l := s.data.toList) (by intro e; rw [e] at hz; simp at hz; omega) (by omega) (by have h := HD.out; rw [take_size] at h; exact h))
        have HXY := Lib.hid (HR.out.symm.trans HOK.out)
        have HZ := Lib.hid (show true = decide (0 < s.size) from (decide_eq_true (by omega)).symm)
        clear h0 hz
        go_wp2_with fail
        go_ret2
        exact ⟨ret_pair (by rw [HXY.out, HV.out, take_size, ← HZ.out]), rfl⟩
end Go.Proofs.YtpeponjggbbjpaaDoor
