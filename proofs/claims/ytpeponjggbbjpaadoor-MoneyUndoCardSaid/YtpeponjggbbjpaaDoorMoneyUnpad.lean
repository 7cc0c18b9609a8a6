/- money.Unpad; the document's Unpad: what they compute. -/
import Derived.Test.YtpeponjggbbjpaaDoorMoneyWalk1
namespace Go.Proofs.YtpeponjggbbjpaaDoor
open Go.RowKit Mon

theorem unpadM_no {l : List UInt8} (h : l = [] ∨ 18 < l.length ∨ ¬ ∀ c ∈ l, Digit c) : unpadM l = (0, false) := by unfold unpadM; rw [if_pos h]
theorem unpadM_ok {l : List UInt8} (h0 : ¬ l = []) (h1 : ¬ 18 < l.length) (h2 : ∀ c ∈ l, Digit c) : unpadM l = (((valFrom 0 l : Nat) : Int), true) := by
  unfold unpadM
  rw [if_neg (by rintro (h | h | h); exact h0 h; exact h1 h; exact h h2)]
theorem size_len (s : ByteArray) : s.data.toList.length = s.size := by simp
theorem get_list (s : ByteArray) (j : Nat) (h : j < s.size) : s.data.toList[j]? = some s[j] := by
  rw [List.getElem?_eq_getElem (by simpa using h)]
  rfl
theorem get_mem (s : ByteArray) (j : Nat) (h : j < s.size) : s[j] ∈ s.data.toList := List.mem_of_getElem? (get_list s j h)
theorem take_snoc (s : ByteArray) (j : Nat) (h : j < s.size) : s.data.toList.take (j + 1) = s.data.toList.take j ++ [s[j]] := by
  rw [List.take_add_one, get_list s j h]
  rfl
theorem emptyT (s : ByteArray) (h : s.size = 0) : s.toList.isEmpty = true := by
  rw [ByteArray.toList_eq, show s.data.toList = [] from List.eq_nil_of_length_eq_zero (by rw [size_len]; exact h)]; rfl
theorem emptyF (s : ByteArray) (h : ¬ s.size = 0) : s.toList.isEmpty = false := by
  rw [ByteArray.toList_eq]
  have := size_len s
  cases hl : s.data.toList with
  | nil => rw [hl] at this; simp at this; omega
  | cons _ _ => rfl
theorem ret_pair {x c : Int} {y d : Bool} (h : (x, y) = (c, d)) : Ending.returned (.tuple #[.int .i64 c, .bool d]) = .returned (.tuple #[.int .i64 x, .bool y]) := by injection h with h1 h2; subst h1; subst h2; rfl
theorem take_size (s : ByteArray) : s.data.toList.take s.size = s.data.toList := List.take_of_length_le (by simp)
theorem pow17 (j : Nat) (h : j ≤ 17) : 10 ^ j ≤ 100000000000000000 := Nat.le_trans (Nat.pow_le_pow_right (by omega) h) (by decide)

set_option maxHeartbeats 1000000 in
theorem unpad_any (s : ByteArray) (w : World) :
    Calls Tryd.prog 18 #[.string s] w fun e w' => e = .returned (pairV (unpadM s.data.toList)) ∧ w = w' := by
  have hz := size_len s
  by_cases h1 : (s.size : Int) = 0
  · have hn := unpadM_no (l := s.data.toList) (.inl (List.eq_nil_of_length_eq_zero (by omega)))
    rw [hn]
    unfold pairV
    clear hn
    go_enter Tryd.func18, Tryd.ntmps18
    have hem := emptyT s (by omega)
    go_wp2_with fail
    go_ret2
    exact ⟨rfl, rfl⟩
  · have hem := emptyF s (by omega)
    by_cases h2 : (18 : Int) < (s.size : Int)
    · have hn := unpadM_no (l := s.data.toList) (.inr (.inl (by omega)))
      rw [hn]
      unfold pairV
      clear hn
      go_enter Tryd.func18, Tryd.ntmps18
      go_wp2_with fail
      go_ret2
      exact ⟨rfl, rfl⟩
    · have hne : ¬ s.data.toList = [] := by intro e; rw [e] at hz; simp at hz; omega
      obtain ⟨R, hR⟩ : ∃ R, unpadM s.data.toList = R := ⟨_, rfl⟩
      obtain ⟨x, y⟩ := R
      rw [hR]
      unfold pairV
      have HR := Lib.hid hR
      have HNE := Lib.hid hne
      clear hR hne
      go_enter Tryd.func18, Tryd.ntmps18
      go_wp2_with fail
      go_loopw [4, 15] (fun nv i wr => ∃ (j v : Nat), j ≤ s.size ∧ i = .int .i64 j ∧ nv = .int .i64 v ∧ Hid (v = valFrom 0 (s.data.toList.take j)) ∧ Hid (∀ c ∈ s.data.toList.take j, Digit c) ∧ wr = w) (fun _ i _ => s.size - (intOf i).toNat)
      case atStart => exact ⟨0, 0, Nat.zero_le _, rfl, rfl, rfl, fun c hc => by simp at hc, rfl⟩
      case round =>
        obtain ⟨j, v, hj, rfl, rfl, HV, HD, rfl⟩ := hrel
        by_cases hlt : j < s.size
        · by_cases hd : Digit s[j]
          · obtain ⟨hd1, hd2⟩ := hd
            have hva := valFrom_lt (s.data.toList.take j) 0 0 HD.out (by decide)
            rw [← HV.out, List.length_take, Nat.min_eq_left (by omega), Nat.zero_add] at hva
            have hvb := pow17 j (by omega)
            have hvc : v < 100000000000000000 := Nat.lt_of_lt_of_le hva hvb
            have c1 : ¬ (s[j].toNat : Int) < 48 := by omega
            have c2 : ¬ (57 : Int) < (s[j].toNat : Int) := by omega
            have HS := Lib.hid (take_snoc s j hlt)
            clear hva hvb
            go_wp2_with fail
            go_roundw
            case rel =>
              refine ⟨j + 1, v * 10 + (s[j].toNat - 48), by omega, by go_num, ?_, ?_, ?_, trivial⟩
              · go_num
              · show _ = _
                rw [HS.out, valFrom_append, ← HV.out]
                rfl
              · intro c hc
                rw [HS.out] at hc
                rcases List.mem_append.1 hc with hc | hc
                · exact HD.out c hc
                · simp at hc
                  subst hc
                  exact ⟨hd1, hd2⟩
            case measure => simp [intOf]; omega
          · have HNO := Lib.hid (unpadM_no (l := s.data.toList) (.inr (.inr fun h => hd (h _ (get_mem s j hlt)))))
            have HXY := Lib.hid (HR.out.symm.trans HNO.out)
            by_cases c1 : (s[j].toNat : Int) < 48
            · go_wp2_with fail
              go_ret2
              exact ⟨ret_pair HXY.out, rfl⟩
            · have c2 : (57 : Int) < (s[j].toNat : Int) := by unfold Digit at hd; omega
              go_wp2_with fail
              go_ret2
              exact ⟨ret_pair HXY.out, rfl⟩
        · have hj' : j = s.size := by omega
          subst hj'
          have HOK := Lib.hid (unpadM_ok HNE.out (by omega) (by have h := HD.out; rw [take_size] at h; exact h))
          have HXY := Lib.hid (HR.out.symm.trans HOK.out)
          go_wp2_with fail
          go_ret2
          exact ⟨ret_pair (by rw [HXY.out, HV.out, take_size]), rfl⟩
end Go.Proofs.YtpeponjggbbjpaaDoor
