/- csv.plain: what it computes; lines and columns. -/
import Derived.Test.YtgpjbigelblanaaGreatDoorMem
import Derived.Test.YtgpjbigelblanaaGreatDoorCsvSpec
namespace Go.Proofs.YtgpjbigelblanaaGreatDoor
open Go.RowKit

theorem drop_cons (s : ByteArray) (j : Nat) (h : j < s.size) : s.data.toList.drop j = s[j] :: s.data.toList.drop (j + 1) := by
  have h' : j < s.data.toList.length := by simpa using h
  rw [List.drop_eq_getElem_cons h']
  rfl
theorem take_snocC (s : ByteArray) (k : Nat) (h : k < s.size) : s.data.toList.take (k + 1) = s.data.toList.take k ++ [s[k]] := by
  rw [List.take_succ_eq_append_getElem (by simpa using h)]; rfl
theorem u8_of (c : UInt8) (n : Nat) (hn : n < 256) : ((c.toNat : Int) = n) ↔ c = UInt8.ofNat n := by
  constructor
  · intro h
    have h' : c.toNat = n := by omega
    apply UInt8.toNat_inj.1
    rw [h']
    simp
    omega
  · rintro rfl
    simp
    omega

/-- What csv.plain answers. -/
def plainOut (s : ByteArray) (k : Nat) : Value :=
  let r := Csv.scanP (s.data.toList.drop k)
  if r.2 = true then .tuple #[.string (s.extract k (k + r.1)), .int .i64 ((k + r.1 : Nat) : Int), .bool true]
  else .tuple #[.string ⟨#[]⟩, .int .i64 ((k + r.1 : Nat) : Int), .bool false]

theorem plainOut_step (s : ByteArray) (k j : Nat) (hkj : k ≤ j) (h : j < s.size) (h1 : ¬ (s[j] = 44 ∨ s[j] = 10)) (h2 : ¬ (s[j] = 34 ∨ s[j] = 13)) (hr : Csv.scanP (s.data.toList.drop k) = ((Csv.scanP (s.data.toList.drop j)).1 + (j - k), (Csv.scanP (s.data.toList.drop j)).2)) :
    Csv.scanP (s.data.toList.drop k) = ((Csv.scanP (s.data.toList.drop (j + 1))).1 + (j + 1 - k), (Csv.scanP (s.data.toList.drop (j + 1))).2) := by
  rw [hr, drop_cons s j h, Csv.scanP, if_neg h1, if_neg h2]
  simp only [Prod.mk.injEq, and_true]
  omega

set_option maxHeartbeats 1000000 in
theorem plain_any (s : ByteArray) (k : Nat) (w : World) (hs : s.size ≤ 65536) (hk : k ≤ s.size) :
    Calls Tryz.prog 58 #[.string s, .int .i64 k] w fun e w' => e = .returned (plainOut s k) ∧ w = w' := by
  go_enter Tryz.func58, Tryz.ntmps58
  go_wp2
  go_loop [1] (fun i => ∃ j : Nat, k ≤ j ∧ j ≤ s.size ∧ i = .int .i64 j ∧ Hid (Csv.scanP (s.data.toList.drop k) = ((Csv.scanP (s.data.toList.drop j)).1 + (j - k), (Csv.scanP (s.data.toList.drop j)).2))) (fun i => s.size - (intOf i).toNat)
  case atStart => exact ⟨k, Nat.le_refl _, hk, rfl, by simp [Hid]⟩
  case round =>
    obtain ⟨j, hkj, hj, rfl, Hr⟩ := hrel
    by_cases hlt : j < s.size
    · by_cases h1 : s[j] = 44 ∨ s[j] = 10
      · have hout : plainOut s k = .tuple #[.string (s.extract k j), .int .i64 (j : Int), .bool true] := by
          have hr := Hr.out
          rw [drop_cons s j hlt, Csv.scanP, if_pos h1] at hr
          unfold plainOut
          simp only [hr, if_true]
          rw [show k + (0 + (j - k)) = j from by omega]
        have HO := Lib.hid hout; clear hout
        rcases h1 with h1 | h1
        · have g1 : (s[j].toNat : Int) = 44 := by rw [h1]; rfl
          clear h1
          go_wp2
          go_ret3
          exact ⟨by rw [HO.out]; rfl, rfl⟩
        · have g1 : (s[j].toNat : Int) = 10 := by rw [h1]; rfl
          clear h1
          go_wp2
          go_ret3
          exact ⟨by rw [HO.out]; rfl, rfl⟩
      · have g44 : ¬ (s[j].toNat : Int) = 44 := fun e => h1 (.inl ((u8_of _ 44 (by decide)).1 e))
        have g10 : ¬ (s[j].toNat : Int) = 10 := fun e => h1 (.inr ((u8_of _ 10 (by decide)).1 e))
        by_cases h2 : s[j] = 34 ∨ s[j] = 13
        · have hout : plainOut s k = .tuple #[.string ⟨#[]⟩, .int .i64 (j : Int), .bool false] := by
            have hr := Hr.out
            rw [drop_cons s j hlt, Csv.scanP, if_neg h1, if_pos h2] at hr
            unfold plainOut
            simp only [hr, Bool.false_eq_true, if_false]
            rw [show k + (0 + (j - k)) = j from by omega]
          have HO := Lib.hid hout; clear hout h1
          rcases h2 with h2 | h2
          · have g1 : (s[j].toNat : Int) = 34 := by rw [h2]; rfl
            clear h2
            go_wp2
            go_ret3
            exact ⟨by rw [HO.out]; rfl, rfl⟩
          · have g1 : (s[j].toNat : Int) = 13 := by rw [h2]; rfl
            clear h2
            go_wp2
            go_ret3
            exact ⟨by rw [HO.out]; rfl, rfl⟩
        · have g34 : ¬ (s[j].toNat : Int) = 34 := fun e => h2 (.inl ((u8_of _ 34 (by decide)).1 e))
          have g13 : ¬ (s[j].toNat : Int) = 13 := fun e => h2 (.inr ((u8_of _ 13 (by decide)).1 e))
          have HN := Lib.hid (plainOut_step s k j hkj hlt h1 h2 Hr.out)
          clear h1 h2
          have k1 := bneT g44; have k2 := bneT g10; have k3 := beqF g34; have k4 := beqF g13
          clear g44 g10 g34 g13
          go_wp2
          go_round
          case rel => exact ⟨j + 1, by omega, by omega, by go_num, HN⟩
          case measure => simp [intOf]; omega
    · obtain rfl : j = s.size := by omega
      have hout : plainOut s k = .tuple #[.string (s.extract k s.size), .int .i64 (s.size : Int), .bool true] := by
        have hr := Hr.out
        rw [show s.data.toList.drop s.size = [] from by simp, Csv.scanP] at hr
        unfold plainOut
        simp only [hr, if_true]
        rw [show k + (0 + (s.size - k)) = s.size from by omega]
      have HO := Lib.hid hout; clear hout
      go_wp2
      go_ret3
      exact ⟨by rw [HO.out]; rfl, rfl⟩

/-- A place in a text, as a reject. -/
def rej (l : List UInt8) (code : Int) : Value := .agg #[.int .i64 ((Csv.lc l).1 : Int), .int .i64 ((Csv.lc l).2 : Int), .int .i64 code]

theorem lc_snoc (l : List UInt8) (c : UInt8) : Csv.lc (l ++ [c]) = if c = 10 then ((Csv.lc l).1 + 1, 1) else ((Csv.lc l).1, (Csv.lc l).2 + 1) := by
  unfold Csv.lc; rw [List.foldl_append]; rfl
theorem lc_le (l : List UInt8) : (Csv.lc l).1 ≤ l.length + 1 ∧ (Csv.lc l).2 ≤ l.length + 1 ∧ 1 ≤ (Csv.lc l).1 ∧ 1 ≤ (Csv.lc l).2 := by
  suffices h : ∀ (r : List UInt8), (Csv.lc r.reverse).1 ≤ r.length + 1 ∧ (Csv.lc r.reverse).2 ≤ r.length + 1 ∧ 1 ≤ (Csv.lc r.reverse).1 ∧ 1 ≤ (Csv.lc r.reverse).2 by
    have := h l.reverse
    simpa using this
  intro r
  induction r with
  | nil => simp [Csv.lc]
  | cons c r ih =>
    rw [List.reverse_cons, lc_snoc]
    split <;> simp <;> omega

end Go.Proofs.YtgpjbigelblanaaGreatDoor
