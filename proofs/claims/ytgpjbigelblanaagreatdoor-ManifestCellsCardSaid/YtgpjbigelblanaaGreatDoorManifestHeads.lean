/- Manifest's files, plain: a line stands where an order's first row does. -/
import Derived.Test.YtgpjbigelblanaaGreatDoorManifestForm0
namespace Go.Proofs.YtgpjbigelblanaaGreatDoor
open Key Mon Rw
set_option linter.unusedSimpArgs false
set_option linter.unusedVariables false

namespace Mf
/-- Is a row the first of its order? -/
def headAt (l : List R5) (k : Nat) (x : R5) : Bool := match k with
  | 0 => true
  | j + 1 => match l[j]? with
    | none => true
    | some y => decide (y.1.1 ≠ x.1.1)
def ordAt (l : List R5) (k : Nat) : List Int := match l[k]? with
  | none => []
  | some x => if headAt l k x = true then [x.1.1] else []
def ordTo (l : List R5) (k : Nat) : List Int := (List.range k).flatMap (ordAt l)
theorem ordTo_succ (l : List R5) (k : Nat) : ordTo l (k + 1) = ordTo l k ++ ordAt l k := by unfold ordTo; rw [List.range_succ, List.flatMap_append]; simp
def lineR (l : List R5) (o : Int) : Line := [Lib.itoa o, cellW (sayR (deedRow l o 2)), cellW (sayR (deedRow l o 5))]
def refTo (l : List R5) (k : Nat) : List Line := (ordTo l k).map (lineR l)
theorem ordAt_yes {l : List R5} {k : Nat} {x : R5} (hx : l[k]? = some x) (h : headAt l k x = true) : ordAt l k = [x.1.1] := by unfold ordAt; rw [hx]; simp [h]
theorem ordAt_no {l : List R5} {k : Nat} {x : R5} (hx : l[k]? = some x) (h : headAt l k x = false) : ordAt l k = [] := by unfold ordAt; rw [hx]; simp [h]
theorem headAt_zero (l : List R5) (x : R5) : headAt l 0 x = true := rfl
theorem headAt_succ {l : List R5} {j : Nat} {x y : R5} (hy : l[j]? = some y) : headAt l (j + 1) x = decide (y.1.1 ≠ x.1.1) := by simp only [headAt, hy]
theorem refTo_yes {l : List R5} {k : Nat} {x : R5} (hx : l[k]? = some x) (h : headAt l k x = true) : refTo l (k + 1) = refTo l k ++ [lineR l x.1.1] := by unfold refTo; rw [ordTo_succ, ordAt_yes hx h, List.map_append]; rfl
theorem refTo_no {l : List R5} {k : Nat} {x : R5} (hx : l[k]? = some x) (h : headAt l k x = false) : refTo l (k + 1) = refTo l k := by unfold refTo; rw [ordTo_succ, ordAt_no hx h, List.append_nil]
theorem ordTo_len (l : List R5) : ∀ k, (ordTo l k).length ≤ k
  | 0 => by simp [ordTo]
  | k + 1 => by
    rw [ordTo_succ, List.length_append]
    have := ordTo_len l k
    have : (ordAt l k).length ≤ 1 := by
      unfold ordAt
      split
      · simp
      · split <;> simp
    omega
theorem less_le {x y : R5} (h : lessR x y = true) : x.1.1 ≤ y.1.1 := by unfold lessR lessB at h; simp at h; omega
structure OrdOk (l : List R5) (k : Nat) : Prop where
  rise : (ordTo l k).Pairwise fun a b => a < b
  src : ∀ o ∈ ordTo l k, ∃ x ∈ l, x.1.1 = o
  got : ∀ i x, i < k → l[i]? = some x → x.1.1 ∈ ordTo l k
  top : ∀ o ∈ ordTo l k, ∀ y, 1 ≤ k → l[k - 1]? = some y → o ≤ y.1.1
theorem ordTo_ok {l : List R5} (h : l.Pairwise fun x y => lessR x y = true) : ∀ k, k ≤ l.length → OrdOk l k
  | 0, _ => ⟨by simp [ordTo], by simp [ordTo], by omega, by omega⟩
  | k + 1, hk => by
    have ih := ordTo_ok h k (by omega)
    obtain ⟨x, hx⟩ : ∃ x, l[k]? = some x := ⟨_, List.getElem?_eq_getElem (by omega)⟩
    have hxl := List.mem_of_getElem? hx
    cases e : headAt l k x with
    | true =>
      have hlow : ∀ o ∈ ordTo l k, o < x.1.1 := fun o ho => by
        cases k with
        | zero => simp [ordTo] at ho
        | succ j =>
          obtain ⟨y, hy⟩ : ∃ y, l[j]? = some y := ⟨_, List.getElem?_eq_getElem (by omega)⟩
          have h1 := ih.top o ho y (by omega) (by simpa using hy)
          rw [headAt_succ hy] at e
          have h2 : y.1.1 ≠ x.1.1 := by simpa using e
          have h3 : lessR y x = true := by
            obtain ⟨hj, ej⟩ := List.getElem?_eq_some_iff.1 hy
            obtain ⟨hk', ek⟩ := List.getElem?_eq_some_iff.1 hx
            rw [← ej, ← ek]
            exact List.pairwise_iff_getElem.1 h j (j + 1) hj hk' (by omega)
          have := less_le h3
          omega
      have ea := ordAt_yes hx e
      refine ⟨?_, fun o ho => ?_, fun i z hi hz => ?_, fun o ho y _ hy => ?_⟩
      · rw [ordTo_succ, ea, List.pairwise_append]
        exact ⟨ih.rise, List.pairwise_singleton _ _, fun a ha b hb => by simp only [List.mem_singleton] at hb; subst hb; exact hlow a ha⟩
      · rw [ordTo_succ, ea] at ho
        rcases List.mem_append.1 ho with ho | ho
        · exact ih.src o ho
        · simp only [List.mem_singleton] at ho; exact ⟨x, hxl, ho.symm⟩
      · rw [ordTo_succ, ea]
        by_cases hik : i = k
        · subst hik; rw [hx] at hz; cases hz; simp
        · exact List.mem_append_left _ (ih.got i z (by omega) hz)
      · rw [Nat.add_sub_cancel, hx] at hy
        cases hy
        rw [ordTo_succ, ea] at ho
        rcases List.mem_append.1 ho with ho | ho
        · have := hlow o ho; omega
        · simp only [List.mem_singleton] at ho; omega
    | false =>
      cases k with
      | zero => rw [headAt_zero] at e; cases e
      | succ j =>
        obtain ⟨y, hy⟩ : ∃ y, l[j]? = some y := ⟨_, List.getElem?_eq_getElem (by omega)⟩
        rw [headAt_succ hy] at e
        have e2 : y.1.1 = x.1.1 := by simpa using e
        have ea := ordAt_no hx (show headAt l (j + 1) x = false by rw [headAt_succ hy]; exact e)
        have eo : ordTo l (j + 1 + 1) = ordTo l (j + 1) := by rw [ordTo_succ, ea, List.append_nil]
        refine ⟨by rw [eo]; exact ih.rise, by rw [eo]; exact ih.src, fun i z hi hz => ?_, fun o ho z _ hz => ?_⟩
        · rw [eo]
          by_cases hik : i = j + 1
          · subst hik; rw [hx] at hz; cases hz; rw [← e2]; exact ih.got j y (by omega) hy
          · exact ih.got i z (by omega) hz
        · rw [Nat.add_sub_cancel, hx] at hz
          cases hz
          rw [eo] at ho
          have := ih.top o ho y (by omega) (by simpa using hy)
          omega
/-- The orders of which something is said. -/
def ordG (g : Book) (j : Nat) : List Int := if (g (j + 1)).1.1 = 0 ∧ (g (j + 1)).2.1 = 0 then [] else [((j + 1 : Nat) : Int)]
theorem ordG_rise (g : Book) : ∀ k, ((List.range k).flatMap (ordG g)).Pairwise (fun a b => a < b) ∧ ∀ o ∈ (List.range k).flatMap (ordG g), o ≤ (k : Int)
  | 0 => by simp
  | k + 1 => by
    obtain ⟨h1, h2⟩ := ordG_rise g k
    rw [List.range_succ, List.flatMap_append, List.flatMap_singleton]
    have hm : ∀ b ∈ ordG g k, b = ((k + 1 : Nat) : Int) := fun b hb => by
      unfold ordG at hb
      split at hb
      · cases hb
      · simpa using hb
    refine ⟨?_, fun o ho => ?_⟩
    · rw [List.pairwise_append]
      refine ⟨h1, ?_, fun a ha b hb => by have := h2 a ha; have := hm b hb; omega⟩
      unfold ordG
      split <;> simp
    · rcases List.mem_append.1 ho with ho | ho
      · have := h2 o ho; omega
      · have := hm o ho; omega
theorem mem_ordG {g : Book} {k : Nat} {o : Int} : o ∈ (List.range k).flatMap (ordG g) ↔ ∃ j : Nat, j < k ∧ o = ((j + 1 : Nat) : Int) ∧ ¬ ((g (j + 1)).1.1 = 0 ∧ (g (j + 1)).2.1 = 0) := by
  rw [List.mem_flatMap]
  constructor
  · rintro ⟨j, hj, h⟩
    rw [List.mem_range] at hj
    unfold ordG at h
    split at h
    · cases h
    · rename_i hn
      simp only [List.mem_singleton] at h
      exact ⟨j, hj, h, hn⟩
  · rintro ⟨j, hj, rfl, hn⟩
    refine ⟨j, List.mem_range.2 hj, ?_⟩
    unfold ordG
    rw [if_neg hn]
    simp
theorem linesTo_map (l : List R5) (k : Nat) : linesTo (bookOf l) k = ((List.range k).flatMap (ordG (bookOf l))).map (lineR l) := by
  unfold linesTo
  rw [List.map_flatMap]
  congr 1
  funext j
  unfold lineO ordG
  split
  · rfl
  · rfl
theorem say_zero {l : List R5} (h : ∀ x ∈ l, okRow 2 x = true) {o d : Int} (hs : (sayR (deedRow l o d)).1 ≠ 0) : ∃ x ∈ l, x.1 = (o, d) := by
  cases e : deedRow l o d with
  | none => rw [e] at hs; exact absurd rfl hs
  | some x => exact ⟨x, deedRow_some e⟩
theorem refTo_all {l : List R5} (h : ∀ x ∈ l, okRow 2 x = true) (hp : l.Pairwise fun x y => lessR x y = true) : refTo l l.length = linesTo (bookOf l) 60 := by
  rw [linesTo_map]
  unfold refTo
  congr 1
  have ok := ordTo_ok hp l.length (Nat.le_refl _)
  refine strict_ext (R := fun a b : Int => a < b) (fun x => by omega) (fun a b => by omega) ok.rise (ordG_rise _ 60).1 fun o => ?_
  rw [mem_ordG]
  constructor
  · intro ho
    obtain ⟨x, hx, hxo⟩ := ok.src o ho
    obtain ⟨h1, h2, h3, _⟩ := row_carry (h x hx)
    have hat := deedRow_mem hp hx
    refine ⟨(o - 1).toNat, by omega, by omega, ?_⟩
    have e : (((o - 1).toNat + 1 : Nat) : Int) = x.1.1 := by omega
    unfold bookOf
    simp only []
    rw [e]
    rintro ⟨a, b⟩
    rcases h2 with h2 | h2 <;> rw [h2] at hat
    · rw [hat] at a; unfold sayR at a; simp only [] at a; omega
    · rw [hat] at b; unfold sayR at b; simp only [] at b; omega
  · rintro ⟨j, hj, rfl, hn⟩
    have : ∃ x ∈ l, x.1.1 = ((j + 1 : Nat) : Int) := by
      by_cases h1 : (bookOf l (j + 1)).1.1 = 0
      · obtain ⟨x, hx, e⟩ := say_zero h (show (sayR (deedRow l ((j + 1 : Nat) : Int) 5)).1 ≠ 0 from fun e => hn ⟨h1, e⟩)
        exact ⟨x, hx, by rw [e]⟩
      · obtain ⟨x, hx, e⟩ := say_zero h (show (sayR (deedRow l ((j + 1 : Nat) : Int) 2)).1 ≠ 0 from h1)
        exact ⟨x, hx, by rw [e]⟩
    obtain ⟨x, hx, e⟩ := this
    obtain ⟨i, hi⟩ := List.getElem?_of_mem hx
    have := ok.got i x (List.getElem?_eq_some_iff.1 hi).1 hi
    rw [e] at this
    exact this
theorem refTo_len (l : List R5) (k : Nat) : (refTo l k).length = (ordTo l k).length := by simp [refTo]
end Mf
end Go.Proofs.YtgpjbigelblanaaGreatDoor
