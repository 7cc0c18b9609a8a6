/- What csv.Print computes, as plain functions on lists of bytes. -/
import Derived.Test.YtgpjbigelblanaaGreatDoorCsvAny
namespace Go.Proofs.YtgpjbigelblanaaGreatDoor
namespace Csv

def dbl (l : List UInt8) : List UInt8 := l.flatMap fun c => if c = 34 then [34, 34] else [c]
def fieldOf (l : List UInt8) : List UInt8 := if needs l = true then 34 :: (dbl l ++ [34]) else l
def joinC : List (List UInt8) → List UInt8
  | [] => []
  | f :: r => f ++ r.flatMap fun g => 44 :: g
def rowOf (r : List (List UInt8)) : List UInt8 := joinC (r.map fieldOf)
def printOf (rows : List (List (List UInt8))) : List UInt8 := rows.flatMap fun r => rowOf r ++ [10]

theorem joinC_snoc (fs : List (List UInt8)) (g : List UInt8) : joinC (fs ++ [g]) = if fs = [] then g else joinC fs ++ 44 :: g := by
  cases fs with
  | nil => simp [joinC]
  | cons f r => simp [joinC]
theorem rowOf_snoc (r : List (List UInt8)) (g : List UInt8) : rowOf (r ++ [g]) = if r = [] then fieldOf g else rowOf r ++ 44 :: fieldOf g := by
  unfold rowOf
  rw [List.map_append, List.map_cons, List.map_nil, joinC_snoc]
  simp
theorem printOf_snoc (rows : List (List (List UInt8))) (r : List (List UInt8)) : printOf (rows ++ [r]) = printOf rows ++ (rowOf r ++ [10]) := by simp [printOf]

theorem index_cons (c : UInt8) (r : List UInt8) (h : ¬ c = 34) : Lib.index (c :: r) [34] = if Lib.index r [34] = -1 then -1 else Lib.index r [34] + 1 := by
  rw [Lib.index_one, Lib.index_one, Lib.indexByte]
  have hb : (c == 34) = false := by simpa using h
  simp [hb]
theorem replaceK_cons (c : UInt8) (r : List UInt8) (h : ¬ c = 34) (k : Nat) : Lib.replaceK [34] [34, 34] k (c :: r) = c :: Lib.replaceK [34] [34, 34] k r := by
  cases k with
  | zero => rfl
  | succ k =>
    rw [Lib.replaceK, Lib.replaceK, index_cons c r h]
    have hge : -1 ≤ Lib.index r [34] := by rw [Lib.index_one]; exact Lib.indexByte_ge r 34
    by_cases hi : Lib.index r [34] = -1
    · simp [hi]
    · have h1 : ¬ Lib.index r [34] + 1 = -1 := by omega
      have e : (Lib.index r [34] + 1).toNat = (Lib.index r [34]).toNat + 1 := by omega
      simp [hi, h1, e]
theorem replaceAll_dbl (l : List UInt8) : Lib.replaceAll l [34] [34, 34] = dbl l := by
  have h : ∀ l, Lib.replaceK [34] [34, 34] (Lib.count l [34]) l = dbl l := by
    intro l
    induction l with
    | nil => rfl
    | cons c r ih =>
      by_cases hc : c = 34
      · subst hc
        rw [Lib.count_cons_eq, Nat.add_comm, Lib.replaceK]
        have hi : Lib.index (34 :: r) [34] = 0 := by rw [Lib.index_one, Lib.indexByte]; simp
        rw [hi]
        simp [ih, dbl]
      · rw [Lib.count_cons_ne c 34 r hc, replaceK_cons c r hc, ih]
        simp [dbl, hc]
  unfold Lib.replaceAll Lib.replace
  have hn : (([34] : List UInt8) == [34, 34]) = false := by decide
  rw [hn]
  simp only [Bool.false_eq_true, if_false]
  unfold Lib.replaceNum
  rw [if_pos (.inl (by omega))]
  exact h l
theorem dbl_len (l : List UInt8) : (dbl l).length ≤ 2 * l.length := by
  unfold dbl
  induction l with
  | nil => simp
  | cons c r ih =>
    rw [List.flatMap_cons, List.length_append, List.length_cons]
    have : (if c = 34 then [34, 34] else [c] : List UInt8).length ≤ 2 := by split <;> simp
    omega
theorem fieldOf_len (l : List UInt8) : (fieldOf l).length ≤ 2 * l.length + 2 := by
  unfold fieldOf
  have := dbl_len l
  split <;> simp <;> omega
end Csv
end Go.Proofs.YtgpjbigelblanaaGreatDoor
