/- Small words for walks over texts and amounts. -/
import Derived.Test.YtlkncmpengpbiaaGreatDoorMem
import Derived.Test.YtlkncmpengpbiaaGreatDoorMoneySpec
import Derived.Deep.QuietTactic
import Derived.BigQuiet
namespace Go.Proofs.YtlkncmpengpbiaaGreatDoor
open Go.RowKit Mon

def pairV (r : Int × Bool) : Value := .tuple #[.int .i64 r.1, .bool r.2]
theorem size_len (s : ByteArray) : s.data.toList.length = s.size := by simp
theorem get_list (s : ByteArray) (j : Nat) (h : j < s.size) : s.data.toList[j]? = some s[j] := by
  rw [List.getElem?_eq_getElem (by simpa using h)]
  rfl
theorem get_mem (s : ByteArray) (j : Nat) (h : j < s.size) : s[j] ∈ s.data.toList := List.mem_of_getElem? (get_list s j h)
theorem take_snoc (s : ByteArray) (j : Nat) (h : j < s.size) : s.data.toList.take (j + 1) = s.data.toList.take j ++ [s[j]] := by
  rw [List.take_add_one, get_list s j h]
  rfl
theorem emptyT (s : ByteArray) (h : s.size = 0) : s.toList.isEmpty = true := by
  rw [ByteArray.toList_eq, show s.data.toList = [] from List.eq_nil_of_length_eq_zero (by rw [size_len]; exact h)]; rfl
theorem emptyF (s : ByteArray) (h : ¬ s.size = 0) : s.toList.isEmpty = false := by
  rw [ByteArray.toList_eq]
  have := size_len s
  cases hl : s.data.toList with
  | nil => rw [hl] at this; simp at this; omega
  | cons _ _ => rfl
theorem ret_pair {x c : Int} {y d : Bool} (h : (x, y) = (c, d)) : Ending.returned (.tuple #[.int .i64 c, .bool d]) = .returned (.tuple #[.int .i64 x, .bool y]) := by injection h with h1 h2; subst h1; subst h2; rfl
theorem take_size (s : ByteArray) : s.data.toList.take s.size = s.data.toList := List.take_of_length_le (by simp)
theorem pow17 (j : Nat) (h : j ≤ 17) : 10 ^ j ≤ 100000000000000000 := Nat.le_trans (Nat.pow_le_pow_right (by omega) h) (by decide)

theorem join_bytes (a b : List UInt8) : (⟨a.toArray⟩ : ByteArray) ++ ⟨b.toArray⟩ = ⟨(a ++ b).toArray⟩ := by
  apply ByteArray.ext
  apply Array.toList_inj.1
  rw [ByteArray.data_append, Array.toList_append]

theorem itoaT (l : List UInt8) (s : ByteArray) (h : l = s.data.toList) : (l == s.toList) = true := by rw [ByteArray.toList_eq, h]; simp
theorem itoaF (l : List UInt8) (s : ByteArray) (h : ¬ l = s.data.toList) : (l == s.toList) = false := by rw [ByteArray.toList_eq]; simpa using h
end Go.Proofs.YtlkncmpengpbiaaGreatDoor
/- money.Add, Sub, Neg; the document's Add, Sub: what they compute. -/
namespace Go.Proofs.YtlkncmpengpbiaaGreatDoor
open Go.RowKit Mon

theorem addM_ok {a b : Int} (h : InR (a + b)) : addM a b = (a + b, true) := by unfold addM; rw [if_pos h]
theorem addM_no {a b : Int} (h : ¬ InR (a + b)) : addM a b = (0, false) := by unfold addM; rw [if_neg h]
theorem subM_ok {a b : Int} (h : InR (a - b)) : subM a b = (a - b, true) := by unfold subM; rw [if_pos h]
theorem subM_no {a b : Int} (h : ¬ InR (a - b)) : subM a b = (0, false) := by unfold subM; rw [if_neg h]

theorem zero_in : InR 0 := by unfold InR; omega
theorem wrap_cases (x : Int) (h : -18446744073709551616 ≤ x ∧ x ≤ 18446744073709551615) : (-9223372036854775808 ≤ x ∧ x ≤ 9223372036854775807 ∧ wrap64 x = x) ∨ (9223372036854775807 < x ∧ wrap64 x = x - 18446744073709551616) ∨ (x < -9223372036854775808 ∧ wrap64 x = x + 18446744073709551616) := by
  unfold wrap64
  omega
theorem ret2 {r r' : Int × Bool} {c : Int} {d : Bool} (h : r = r') (hc : c = r'.1) (hd : d = r'.2) : Ending.returned (.tuple #[.int .i64 c, .bool d]) = .returned (pairV r) := by subst h; subst hc; subst hd; rfl
set_option maxHeartbeats 1000000 in
theorem add_any (a b : Int) (w : World) (ha : InR a) (hb : InR b) :
    Calls Tryz.prog 161 #[.int .i64 a, .int .i64 b] w fun e w' => e = .returned (pairV (addM a b)) ∧ w = w' := by
  obtain ⟨a1, a2⟩ := ha; obtain ⟨b1, b2⟩ := hb
  go_enter Tryz.func161, Tryz.ntmps161
  go_wp2
  all_goals go_ret2
  all_goals first
    | exact ⟨by rw [addM_ok ⟨by omega, by omega⟩]; rfl, rfl⟩
    | exact ⟨by rw [addM_no (fun h => by obtain ⟨h1, h2⟩ := h; omega)]; rfl, rfl⟩
set_option maxHeartbeats 1000000 in
theorem sub_any (a b : Int) (w : World) (ha : InR a) (hb : InR b) :
    Calls Tryz.prog 162 #[.int .i64 a, .int .i64 b] w fun e w' => e = .returned (pairV (subM a b)) ∧ w = w' := by
  obtain ⟨a1, a2⟩ := ha; obtain ⟨b1, b2⟩ := hb
  go_enter Tryz.func162, Tryz.ntmps162
  go_wp2
  all_goals go_ret2
  all_goals first
    | exact ⟨by rw [subM_ok ⟨by omega, by omega⟩]; rfl, rfl⟩
    | exact ⟨by rw [subM_no (fun h => by obtain ⟨h1, h2⟩ := h; omega)]; rfl, rfl⟩
end Go.Proofs.YtlkncmpengpbiaaGreatDoor
