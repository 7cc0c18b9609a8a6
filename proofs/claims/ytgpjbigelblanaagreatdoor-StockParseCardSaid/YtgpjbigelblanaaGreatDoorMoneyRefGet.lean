/- The document's Get: what it computes. -/
import Derived.Test.YtgpjbigelblanaaGreatDoorMoneyRefUnpad
namespace Go.Proofs.YtgpjbigelblanaaGreatDoor
open Go.RowKit Mon

namespace Mon
open Go.Lib
/-- What a text that says an amount is like, behind its sign. -/
structure Says (l t : List UInt8) (m : Bool) (n : Int) : Prop where
  dig : ∀ c ∈ t, Digit c
  ne : t ≠ []
  len : t.length ≤ 19
  val : (n : Int) = if m then -(valFrom 0 t : Int) else (valFrom 0 t : Int)
theorem dec_len19 (u : Nat) (h : u ≤ 9223372036854775808) : (decDigits u).length ≤ 19 := dec_len 18 u (by omega)
theorem says_neg {r : List UInt8} {n : Int} (hn : InR n) (h : itoa n = 45 :: r) : Says (45 :: r) r true n := by
  by_cases h0 : n < 0
  · obtain ⟨u, rfl⟩ : ∃ u : Nat, n = -(u : Int) := ⟨n.natAbs, by omega⟩
    rw [itoa_neg u (by omega)] at h
    have h' : decDigits u = r := by simpa using h
    subst h'
    exact ⟨dec_digit u, dec_ne_nil u, dec_len19 u (by have := hn.1; omega), by rw [val_dec]; rfl⟩
  · obtain ⟨u, rfl⟩ : ∃ u : Nat, n = (u : Int) := ⟨n.toNat, by omega⟩
    rw [itoa_nonneg] at h
    have := dec_digit u 45 (by rw [h]; simp)
    unfold Digit at this
    exact absurd this.1 (by decide)
theorem says_pos {l : List UInt8} {n : Int} (hn : InR n) (h : itoa n = l) (hl : l.head? ≠ some 45) : Says l l false n ∧ 0 ≤ n := by
  by_cases h0 : n < 0
  · obtain ⟨u, rfl⟩ : ∃ u : Nat, n = -(u : Int) := ⟨n.natAbs, by omega⟩
    rw [itoa_neg u (by omega)] at h
    subst h
    simp at hl
  · obtain ⟨u, rfl⟩ : ∃ u : Nat, n = (u : Int) := ⟨n.toNat, by omega⟩
    rw [itoa_nonneg] at h
    subst h
    exact ⟨⟨dec_digit u, dec_ne_nil u, dec_len19 u (by have := hn.2; omega), by rw [val_dec]; rfl⟩, by omega⟩
theorem val_take_le (t : List UInt8) (j : Nat) : valFrom 0 (t.take j) ≤ valFrom 0 t := by
  conv => rhs; rw [← List.take_append_drop j t, valFrom_append]
  exact valFrom_ge _ _
theorem getM_none {l : List UInt8} (h : ∀ n, InR n → itoa n ≠ l) : getM l = (0, false) := by
  rcases getM_cases l with ⟨n, hn, he, _⟩ | ⟨_, h2⟩
  · exact absurd he (h n hn)
  · exact h2
end Mon

theorem under (v : Nat) (d : Int) (h0 : 0 ≤ d) (h9 : d ≤ 9) : (-(v : Int) < (-9223372036854775808 + d).tdiv 10) ↔ 9223372036854775808 < (v : Int) * 10 + d := by
  rw [show (-9223372036854775808 + d) = -(9223372036854775808 - d) by omega, Int.neg_tdiv, Int.tdiv_eq_ediv_of_nonneg (by omega)]
  omega
theorem idx (s : ByteArray) (h : 0 < s.size) : s.data.toList.head? = some s[0] := by
  rw [List.head?_eq_getElem?, get_list s 0 h]
theorem ext_list (s : ByteArray) : (s.extract 1 s.size).data.toList = s.data.toList.tail := by
  rw [Lib.extract_data]
  have h : s.data.toList.length = s.size := size_len s
  rw [List.take_of_length_le (by rw [List.length_drop]; omega)]
  simp

theorem noneOf {l t : List UInt8} {m : Bool} (HA : ∀ n, InR n → Lib.itoa n = l → Says l t m n) (bad : ∀ n, InR n → Says l t m n → False) : getM l = (0, false) :=
  getM_none fun n hn e => bad n hn (HA n hn e)

set_option maxHeartbeats 4000000 in
theorem refGet_neg (s : ByteArray) (w : World) (x : Int) (y : Bool) (HR : Hid (getM s.data.toList = (x, y))) (hpos : 0 < s.size) (hm : (((s[0]'hpos).toNat : Int) == 45) = true) (HA0 : ∀ n, InR n → Lib.itoa n = s.data.toList → Says s.data.toList (s.extract 1 s.size).data.toList true n) (HTL : Hid ((s.extract 1 s.size).data.toList.length = s.size - 1)) :
    Calls Tryz.prog 75 #[.string s] w fun e w' => e = .returned (.tuple #[.int .i64 x, .bool y]) ∧ Below w.heap.size w w' := by
  have hpos1 : (0 : Int) < (s.size : Int) := by omega
  have HA := Lib.hid HA0
  clear HA0
  by_cases hl0 : (s.size - 1) = 0
  · have HNO := Lib.hid (HR.out.symm.trans (noneOf HA.out fun n hn h => by
      have := h.ne
      exact this (List.eq_nil_of_length_eq_zero (by rw [HTL.out]; exact hl0))))
    have hc2 : ((((s.size - 1) : Nat) : Int) == 0) = true := by rw [hl0]; rfl
    clear hl0
    go_enter Tryz.func75, Tryz.ntmps75
    go_wp2_with fail
    go_ret2
    exact ⟨ret_pair HNO.out, Below.refl _ _⟩
  by_cases hl1 : 19 < (s.size - 1)
  · have HNO := Lib.hid (HR.out.symm.trans (noneOf HA.out fun n hn h => by
      have h1 := h.len
      have h2 := HTL.out
      omega))
    have hc2 : ((((s.size - 1) : Nat) : Int) == 0) = false := beqF (by omega)
    have hc3 : (19 : Int) < (((s.size - 1) : Nat) : Int) := by omega
    clear hl0 hl1
    go_enter Tryz.func75, Tryz.ntmps75
    go_wp2_with fail
    go_ret2
    exact ⟨ret_pair HNO.out, Below.refl _ _⟩
  have hc2 : ((((s.size - 1) : Nat) : Int) == 0) = false := beqF (by omega)
  have hc3 : ¬ (19 : Int) < (((s.size - 1) : Nat) : Int) := by omega
  clear hl0 hl1
  go_enter Tryz.func75, Tryz.ntmps75
  go_wp2_with fail
  generalize s.extract 1 s.size = t at HA HTL ⊢
  have ht19 : t.size ≤ 19 := by have := HTL.out; rw [size_len] at this; omega
  go_loopw [6, 7, 8] (fun nv i _ wr => ∃ (j v : Nat), j ≤ t.size ∧ i = .int .i64 j ∧ nv = .int .i64 (-(v : Int)) ∧ Hid (v = valFrom 0 (t.data.toList.take j)) ∧ Hid (∀ c ∈ t.data.toList.take j, Digit c) ∧ Hid ((v : Int) ≤ 9223372036854775808) ∧ wr = w) (fun _ i _ _ => t.size - (intOf i).toNat)
  case atStart => exact ⟨0, 0, Nat.zero_le _, rfl, rfl, rfl, fun c hc => by simp at hc, show ((0 : Nat) : Int) ≤ _ by omega, rfl⟩
  case round =>
    obtain ⟨j, v, hj, rfl, rfl, HV, HD, HLE, rfl⟩ := hrel
    by_cases hlt : j < t.size
    · by_cases hd : Digit t[j]
      · obtain ⟨hd1, hd2⟩ := hd
        have c1 : ¬ (t[j].toNat : Int) < 48 := by omega
        have c2 : ¬ (57 : Int) < (t[j].toNat : Int) := by omega
        have hun := under v (t[j].toNat - 48 : Int) (by omega) (by omega)
        have HS := Lib.hid (take_snoc t j hlt)
        have HV1 := Lib.hid (show v * 10 + (t[j].toNat - 48) = valFrom 0 (t.data.toList.take (j + 1)) by rw [HS.out, valFrom_append, ← HV.out]; rfl)
        by_cases hov : -(v : Int) < (-9223372036854775808 + ((t[j].toNat : Int) - 48)).tdiv 10
        · have HNO := Lib.hid (HR.out.symm.trans (noneOf HA.out fun n hn h => by
            have h1 := val_take_le t.data.toList (j + 1)
            rw [← HV1.out] at h1
            have h2 := hun.1 hov
            have h3 := h.val
            obtain ⟨h4, h5⟩ := hn
            simp only [if_true] at h3
            omega))
          clear hun
          go_wp2_with fail
          go_ret2
          exact ⟨ret_pair HNO.out, Below.refl _ _⟩
        · have hle : (v : Int) * 10 + ((t[j].toNat : Int) - 48) ≤ 9223372036854775808 := by
            have := mt hun.2 hov
            omega
          clear hun
          go_wp2_with fail
          go_roundw
          case rel =>
            refine ⟨j + 1, v * 10 + (t[j].toNat - 48), by omega, by go_num, ?_, HV1.out, ?_, ?_, trivial⟩
            · go_num
            · intro c hc
              rw [HS.out] at hc
              rcases List.mem_append.1 hc with hc | hc
              · exact HD.out c hc
              · simp at hc; subst hc; exact ⟨hd1, hd2⟩
            · show ((v * 10 + (t[j].toNat - 48) : Nat) : Int) ≤ _
              omega
          case measure => simp [intOf]; omega
      · have HNO := Lib.hid (HR.out.symm.trans (noneOf HA.out fun n hn h => hd (h.dig _ (get_mem t j hlt))))
        by_cases c1 : (t[j].toNat : Int) < 48
        · go_wp2_with fail
          go_ret2
          exact ⟨ret_pair HNO.out, Below.refl _ _⟩
        · have c2 : (57 : Int) < (t[j].toNat : Int) := by unfold Digit at hd; omega
          go_wp2_with fail
          go_ret2
          exact ⟨ret_pair HNO.out, Below.refl _ _⟩
    · have hj' : j = t.size := by omega
      subst hj'
      have HV1 := Lib.hid (show v = valFrom 0 t.data.toList by rw [HV.out, take_size])
      have hle := HLE.out
      have HP := Lib.hid (refPut_any (-(v : Int)) wr (by unfold InR; omega))
      go_wp2_with fail
      refine HP.out.mono ?_
      rintro e w1 ⟨rfl, hb⟩
      have HB := Lib.hid hb
      clear hb
      by_cases hi : Lib.itoa (-(v : Int)) = s.data.toList
      · have HXY := Lib.hid (HR.out.symm.trans (show getM s.data.toList = (-(v : Int), true) by rw [← hi]; exact getM_itoa _ (by unfold InR; omega)))
        have q := itoaT _ s hi
        clear hi
        go_wp2_with fail
        go_ret2
        exact ⟨ret_pair HXY.out, HB.out⟩
      · have HXY := Lib.hid (HR.out.symm.trans (getM_none fun n hn h => by
          have h1 := (HA.out n hn h).val
          have h2 := HV1.out
          simp only [if_true] at h1
          rw [← h2] at h1
          rw [h1] at h
          exact hi h))
        have q := itoaF _ s hi
        clear hi
        go_wp2_with fail
        go_ret2
        exact ⟨ret_pair HXY.out, HB.out⟩

set_option maxHeartbeats 4000000 in
theorem refGet_pos (s : ByteArray) (w : World) (hz : s.data.toList.length = s.size) (x : Int) (y : Bool) (HR : Hid (getM s.data.toList = (x, y))) (hpos : 0 < s.size) (hm : (((s[0]'hpos).toNat : Int) == 45) = false) (HA0 : ∀ n, InR n → Lib.itoa n = s.data.toList → Says s.data.toList s.data.toList false n) (HTL : Hid (s.data.toList.length = s.size)) :
    Calls Tryz.prog 75 #[.string s] w fun e w' => e = .returned (.tuple #[.int .i64 x, .bool y]) ∧ Below w.heap.size w w' := by
  have hpos1 : (0 : Int) < (s.size : Int) := by omega
  have HA := Lib.hid HA0
  clear HA0
  by_cases hl0 : s.size = 0
  · have HNO := Lib.hid (HR.out.symm.trans (noneOf HA.out fun n hn h => by
      have := h.ne
      exact this (List.eq_nil_of_length_eq_zero (by rw [HTL.out]; exact hl0))))
    have hc2 : (((s.size : Nat) : Int) == 0) = true := by rw [hl0]; rfl
    clear hz hl0
    go_enter Tryz.func75, Tryz.ntmps75
    go_wp2_with fail
    go_ret2
    exact ⟨ret_pair HNO.out, Below.refl _ _⟩
  by_cases hl1 : 19 < s.size
  · have HNO := Lib.hid (HR.out.symm.trans (noneOf HA.out fun n hn h => by
      have h1 := h.len
      have h2 := HTL.out
      omega))
    have hc2 : (((s.size : Nat) : Int) == 0) = false := beqF (by omega)
    have hc3 : (19 : Int) < ((s.size : Nat) : Int) := by omega
    clear hz hl0 hl1
    go_enter Tryz.func75, Tryz.ntmps75
    go_wp2_with fail
    go_ret2
    exact ⟨ret_pair HNO.out, Below.refl _ _⟩
  have hc2 : (((s.size : Nat) : Int) == 0) = false := beqF (by omega)
  have hc3 : ¬ (19 : Int) < ((s.size : Nat) : Int) := by omega
  clear hz hl0 hl1
  go_enter Tryz.func75, Tryz.ntmps75
  go_wp2_with fail
  have ht19 : s.size ≤ 19 := by have := HTL.out; rw [size_len] at this; omega
  go_loopw [6, 7, 8] (fun nv i _ wr => ∃ (j v : Nat), j ≤ s.size ∧ i = .int .i64 j ∧ nv = .int .i64 (-(v : Int)) ∧ Hid (v = valFrom 0 (s.data.toList.take j)) ∧ Hid (∀ c ∈ s.data.toList.take j, Digit c) ∧ Hid ((v : Int) ≤ 9223372036854775808) ∧ wr = w) (fun _ i _ _ => s.size - (intOf i).toNat)
  case atStart => exact ⟨0, 0, Nat.zero_le _, rfl, rfl, rfl, fun c hc => by simp at hc, show ((0 : Nat) : Int) ≤ _ by omega, rfl⟩
  case round =>
    obtain ⟨j, v, hj, rfl, rfl, HV, HD, HLE, rfl⟩ := hrel
    by_cases hlt : j < s.size
    · by_cases hd : Digit s[j]
      · obtain ⟨hd1, hd2⟩ := hd
        have c1 : ¬ (s[j].toNat : Int) < 48 := by omega
        have c2 : ¬ (57 : Int) < (s[j].toNat : Int) := by omega
        have hun := under v (s[j].toNat - 48 : Int) (by omega) (by omega)
        have HS := Lib.hid (take_snoc s j hlt)
        have HV1 := Lib.hid (show v * 10 + (s[j].toNat - 48) = valFrom 0 (s.data.toList.take (j + 1)) by rw [HS.out, valFrom_append, ← HV.out]; rfl)
        by_cases hov : -(v : Int) < (-9223372036854775808 + ((s[j].toNat : Int) - 48)).tdiv 10
        · have HNO := Lib.hid (HR.out.symm.trans (noneOf HA.out fun n hn h => by
            have h1 := val_take_le s.data.toList (j + 1)
            rw [← HV1.out] at h1
            have h2 := hun.1 hov
            have h3 := h.val
            obtain ⟨h4, h5⟩ := hn
            simp only [Bool.false_eq_true, if_false] at h3
            omega))
          clear hun
          go_wp2_with fail
          go_ret2
          exact ⟨ret_pair HNO.out, Below.refl _ _⟩
        · have hle : (v : Int) * 10 + ((s[j].toNat : Int) - 48) ≤ 9223372036854775808 := by
            have := mt hun.2 hov
            omega
          clear hun
          go_wp2_with fail
          go_roundw
          case rel =>
            refine ⟨j + 1, v * 10 + (s[j].toNat - 48), by omega, by go_num, ?_, HV1.out, ?_, ?_, trivial⟩
            · go_num
            · intro c hc
              rw [HS.out] at hc
              rcases List.mem_append.1 hc with hc | hc
              · exact HD.out c hc
              · simp at hc; subst hc; exact ⟨hd1, hd2⟩
            · show ((v * 10 + (s[j].toNat - 48) : Nat) : Int) ≤ _
              omega
          case measure => simp [intOf]; omega
      · have HNO := Lib.hid (HR.out.symm.trans (noneOf HA.out fun n hn h => hd (h.dig _ (get_mem s j hlt))))
        by_cases c1 : (s[j].toNat : Int) < 48
        · go_wp2_with fail
          go_ret2
          exact ⟨ret_pair HNO.out, Below.refl _ _⟩
        · have c2 : (57 : Int) < (s[j].toNat : Int) := by unfold Digit at hd; omega
          go_wp2_with fail
          go_ret2
          exact ⟨ret_pair HNO.out, Below.refl _ _⟩
    · have hj' : j = s.size := by omega
      subst hj'
      have HV1 := Lib.hid (show v = valFrom 0 s.data.toList by rw [HV.out, take_size])
      have hle := HLE.out
      by_cases hmax : (v : Int) = 9223372036854775808
      · have HNO := Lib.hid (HR.out.symm.trans (noneOf HA.out fun n hn h => by
          have h3 := h.val
          obtain ⟨h4, h5⟩ := hn
          have h6 := HV1.out
          simp only [Bool.false_eq_true, if_false] at h3
          omega))
        have hmx : (-(v : Int) == -9223372036854775808) = true := beqT (by omega)
        clear hmax hle
        go_wp2_with fail
        go_ret2
        exact ⟨ret_pair HNO.out, Below.refl _ _⟩
      have hmx : (-(v : Int) == -9223372036854775808) = false := beqF (by omega)
      have hle2 : (v : Int) ≤ 9223372036854775807 := by omega
      clear hle hmax
      have HP := Lib.hid (refPut_any ((v : Int)) wr (by unfold InR; omega))
      go_wp2_with fail
      refine HP.out.mono ?_
      rintro e w1 ⟨rfl, hb⟩
      have HB := Lib.hid hb
      clear hb
      by_cases hi : Lib.itoa ((v : Int)) = s.data.toList
      · have HXY := Lib.hid (HR.out.symm.trans (show getM s.data.toList = ((v : Int), true) by rw [← hi]; exact getM_itoa _ (by unfold InR; omega)))
        have q := itoaT _ s hi
        clear hi
        go_wp2_with fail
        go_ret2
        exact ⟨ret_pair HXY.out, HB.out⟩
      · have HXY := Lib.hid (HR.out.symm.trans (getM_none fun n hn h => by
          have h1 := (HA.out n hn h).val
          have h2 := HV1.out
          simp only [Bool.false_eq_true, if_false] at h1
          rw [← h2] at h1
          rw [h1] at h
          exact hi h))
        have q := itoaF _ s hi
        clear hi
        go_wp2_with fail
        go_ret2
        exact ⟨ret_pair HXY.out, HB.out⟩

theorem refGet_any (s : ByteArray) (w : World) :
    Calls Tryz.prog 75 #[.string s] w fun e w' => e = .returned (pairV (getM s.data.toList)) ∧ Below w.heap.size w w' := by
  have hz := size_len s
  obtain ⟨x, y, hR⟩ : ∃ x y, getM s.data.toList = (x, y) := ⟨_, _, rfl⟩
  rw [hR]
  unfold pairV
  have HR := Lib.hid hR
  clear hR
  by_cases h0 : s.size = 0
  · have HNO := Lib.hid (HR.out.symm.trans (getM_none fun n hn e => by
      have := (says_pos hn e (by rw [List.eq_nil_of_length_eq_zero (by omega : s.data.toList.length = 0)]; simp)).1.ne
      exact this (List.eq_nil_of_length_eq_zero (by omega))))
    have hc0 : ((s.size : Int) == 0) = true := by simp [h0]
    have hc1 : ¬ (0 : Int) < (s.size : Int) := by omega
    clear h0 hz
    go_enter Tryz.func75, Tryz.ntmps75
    go_wp2_with fail
    go_ret2
    exact ⟨ret_pair HNO.out, Below.refl _ _⟩
  · have hpos : 0 < s.size := Nat.pos_of_ne_zero h0
    by_cases hm : s[0]'hpos = 45
    · refine refGet_neg s w x y HR hpos (by rw [hm]; rfl) (fun n hn e => ?_) (Lib.hid (by rw [ext_list, List.length_tail, hz]))
      have hh := idx s hpos
      rw [hm] at hh
      rw [ext_list]
      cases hl : s.data.toList with
      | nil => rw [hl] at hh; simp at hh
      | cons a r =>
        rw [hl] at hh e
        simp only [List.head?_cons, Option.some.injEq] at hh
        subst hh
        exact says_neg hn e
    · refine refGet_pos s w hz x y HR hpos (beqF fun e => hm (UInt8.toNat_inj.1 (by have h45 : (45 : UInt8).toNat = 45 := rfl; omega))) (fun n hn e => (says_pos hn e (by rw [idx s hpos]; simpa using hm)).1) (Lib.hid hz)
end Go.Proofs.YtgpjbigelblanaaGreatDoor
