/- Small words for walks over texts and amounts. -/
import Derived.Test.YtnfbhocppijbjaaDoorMem
import Derived.Test.YtnfbhocppijbjaaDoorMoneySpec
import Derived.Deep.QuietTactic
import Derived.BigQuiet
namespace Go.Proofs.YtnfbhocppijbjaaDoor
open Go.RowKit Mon

def pairV (r : Int × Bool) : Value := .tuple #[.int .i64 r.1, .bool r.2]
theorem size_len (s : ByteArray) : s.data.toList.length = s.size := by simp
theorem get_list (s : ByteArray) (j : Nat) (h : j < s.size) : s.data.toList[j]? = some s[j] := by
  rw [List.getElem?_eq_getElem (by simpa using h)]
  rfl
theorem get_mem (s : ByteArray) (j : Nat) (h : j < s.size) : s[j] ∈ s.data.toList := List.mem_of_getElem? (get_list s j h)
theorem take_snoc (s : ByteArray) (j : Nat) (h : j < s.size) : s.data.toList.take (j + 1) = s.data.toList.take j ++ [s[j]] := by
  rw [List.take_add_one, get_list s j h]
  rfl
theorem emptyT (s : ByteArray) (h : s.size = 0) : s.toList.isEmpty = true := by
  rw [ByteArray.toList_eq, show s.data.toList = [] from List.eq_nil_of_length_eq_zero (by rw [size_len]; exact h)]; rfl
theorem emptyF (s : ByteArray) (h : ¬ s.size = 0) : s.toList.isEmpty = false := by
  rw [ByteArray.toList_eq]
  have := size_len s
  cases hl : s.data.toList with
  | nil => rw [hl] at this; simp at this; omega
  | cons _ _ => rfl
theorem ret_pair {x c : Int} {y d : Bool} (h : (x, y) = (c, d)) : Ending.returned (.tuple #[.int .i64 c, .bool d]) = .returned (.tuple #[.int .i64 x, .bool y]) := by injection h with h1 h2; subst h1; subst h2; rfl
theorem take_size (s : ByteArray) : s.data.toList.take s.size = s.data.toList := List.take_of_length_le (by simp)
theorem pow17 (j : Nat) (h : j ≤ 17) : 10 ^ j ≤ 100000000000000000 := Nat.le_trans (Nat.pow_le_pow_right (by omega) h) (by decide)

theorem join_bytes (a b : List UInt8) : (⟨a.toArray⟩ : ByteArray) ++ ⟨b.toArray⟩ = ⟨(a ++ b).toArray⟩ := by
  apply ByteArray.ext
  apply Array.toList_inj.1
  rw [ByteArray.data_append, Array.toList_append]

theorem itoaT (l : List UInt8) (s : ByteArray) (h : l = s.data.toList) : (l == s.toList) = true := by rw [ByteArray.toList_eq, h]; simp
theorem itoaF (l : List UInt8) (s : ByteArray) (h : ¬ l = s.data.toList) : (l == s.toList) = false := by rw [ByteArray.toList_eq]; simpa using h
end Go.Proofs.YtnfbhocppijbjaaDoor
