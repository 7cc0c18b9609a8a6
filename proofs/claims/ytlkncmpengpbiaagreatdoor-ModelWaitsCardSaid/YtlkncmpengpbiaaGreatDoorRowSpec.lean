/- Which rows may be a party's, plain. No Go is in sight. -/
import Derived.Test.YtlkncmpengpbiaaGreatDoorKeysSpec
namespace Go.Proofs.YtlkncmpengpbiaaGreatDoor
open Key

/-- A row: its key, code, amount, quantity. -/
abbrev R5 : Type := (Int × Int) × Int × Int × Int
namespace Rw
def lessR (x y : R5) : Bool := lessB x.1.1 x.1.2 y.1.1 y.1.2
def okRow (p : Int) (x : R5) : Bool := chk x.1.1 x.1.2 && decide (partyI x.1.2 = p) && (if x.2.1 = 2 then decide (x.2.2.1 = 0) && decide (x.2.2.2 = 0) else decide (x.2.1 = 1) && (if p = 0 then decide (x.2.2.2 = 0) && decide (0 ≤ x.2.2.1) && decide (x.2.2.1 ≤ 1099511627776) else decide (x.2.2.1 = 0) && decide (0 ≤ x.2.2.2) && decide (x.2.2.2 ≤ 999)))
def risen (l : List R5) (x : R5) : Nat → Bool
  | 0 => true
  | j + 1 => match l[j]? with | none => true | some y => lessR y x
def okAt (p : Int) (l : List R5) (k : Nat) : Bool := match l[k]? with | none => true | some x => okRow p x && risen l x k
def okTo (p : Int) (l : List R5) (k : Nat) : Bool := (List.range k).all (okAt p l)
def checkB (p : Int) (l : List R5) : Bool := decide (0 ≤ p) && decide (p ≤ 2) && decide (l.length ≤ 400) && okTo p l l.length
def validB (p s : Int) (l : List R5) : Bool := decide (1 ≤ s) && decide (s ≤ 1073741824) && checkB p l
theorem okTo_succ (p : Int) (l : List R5) (k : Nat) : okTo p l (k + 1) = (okTo p l k && okAt p l k) := by unfold okTo; rw [List.range_succ, List.all_append]; simp
theorem okAt_zero {p : Int} {l : List R5} {x : R5} (hx : l[0]? = some x) : okAt p l 0 = okRow p x := by unfold okAt; rw [hx]; simp [risen]
theorem okAt_succ {p : Int} {l : List R5} {x y : R5} {j : Nat} (hx : l[j + 1]? = some x) (hy : l[j]? = some y) : okAt p l (j + 1) = (okRow p x && lessR y x) := by unfold okAt; rw [hx]; simp only [risen]; rw [hy]
theorem okAt_row {p : Int} {l : List R5} {x : R5} {k : Nat} (hx : l[k]? = some x) (h : okRow p x = false) : okAt p l k = false := by unfold okAt; rw [hx]; simp [h]
theorem okTo_bad {p : Int} {l : List R5} {k : Nat} (hk : k < l.length) (h : okAt p l k = false) : okTo p l l.length = false := by
  cases e : okTo p l l.length
  · rfl
  · unfold okTo at e
    rw [List.all_eq_true] at e
    rw [e k (List.mem_range.2 hk)] at h
    exact h
theorem check_bad {p : Int} {l : List R5} {k : Nat} (hk : k < l.length) (h : okAt p l k = false) : checkB p l = false := by unfold checkB; rw [okTo_bad hk h]; simp
theorem less_trans {x y z : R5} (h1 : lessR x y = true) (h2 : lessR y z = true) : lessR x z = true := by unfold lessR lessB at *; simp at *; omega
theorem okTo_rows {p : Int} {l : List R5} (h : okTo p l l.length = true) : ∀ x ∈ l, okRow p x = true := by
  intro x hx
  obtain ⟨k, hk⟩ := List.getElem?_of_mem hx
  unfold okTo at h
  rw [List.all_eq_true] at h
  have := h k (List.mem_range.2 (List.getElem?_eq_some_iff.1 hk).1)
  unfold okAt at this
  rw [hk] at this
  exact (Bool.and_eq_true _ _ ▸ this).1
theorem okTo_step {p : Int} {l : List R5} (h : okTo p l l.length = true) {j : Nat} {x y : R5} (hx : l[j + 1]? = some x) (hy : l[j]? = some y) : lessR y x = true := by
  unfold okTo at h
  rw [List.all_eq_true] at h
  have := h (j + 1) (List.mem_range.2 (List.getElem?_eq_some_iff.1 hx).1)
  rw [okAt_succ hx hy] at this
  exact (Bool.and_eq_true _ _ ▸ this).2
theorem okTo_rise {p : Int} {l : List R5} (h : okTo p l l.length = true) : l.Pairwise fun x y => lessR x y = true := by
  rw [List.pairwise_iff_getElem]
  intro i j hi hj hij
  obtain ⟨d, rfl⟩ : ∃ d, j = i + d + 1 := ⟨j - i - 1, by omega⟩
  clear hij
  induction d with
  | zero => exact okTo_step h (List.getElem?_eq_getElem hj) (List.getElem?_eq_getElem hi)
  | succ d ih => exact less_trans (ih (by omega)) (okTo_step h (List.getElem?_eq_getElem hj) (List.getElem?_eq_getElem (by omega)))
end Rw
end Go.Proofs.YtlkncmpengpbiaaGreatDoor
