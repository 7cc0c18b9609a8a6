/- Statements that were accepted, plain: the newest of each party; what they say of a deed. -/
import Derived.Test.YtiagdpfmmjhgcaaGreatDoorRowValid
namespace Go.Proofs.YtiagdpfmmjhgcaaGreatDoor
open Key Rw

namespace In
/-- A statement: party, number, rows. -/
abbrev Stm : Type := Int × Int × List R5
structure Inn where
  a : Stm
  b : Stm
  c : Stm
def Inn.at (I : Inn) (p : Int) : Stm := if p = 0 then I.a else if p = 1 then I.b else I.c
def Inn.put (I : Inn) (p : Int) (x : Stm) : Inn := if p = 0 then { I with a := x } else if p = 1 then { I with b := x } else { I with c := x }
def noS : Stm := (0, 0, [])
def nil : Inn := ⟨noS, noS, noS⟩
def Ok (p : Int) (x : Stm) : Prop := x = noS ∨ x.1 = p ∧ validB p x.2.1 x.2.2 = true
structure Fine (I : Inn) : Prop where
  a : Ok 0 I.a
  b : Ok 1 I.b
  c : Ok 2 I.c
def rowsAll (I : Inn) : List R5 := I.a.2.2 ++ I.b.2.2 ++ I.c.2.2
def findR (l : List R5) (k : Int × Int) : Option R5 := l.find? fun x => decide (x.1 = k)
def rowOf (I : Inn) (k : Int × Int) : Option R5 := findR (rowsAll I) k
/-- How a statement is taken in. -/
def accE (I : Inn) (x : Stm) : Int := if validB x.1 x.2.1 x.2.2 = false then 2 else if x.2.1 ≤ (I.at x.1).2.1 then 93 else 0
def accI (I : Inn) (x : Stm) : Inn := if accE I x = 0 then I.put x.1 x else I
def amtI (I : Inn) (o d : Int) : Int := match rowOf I (o, d) with | none => 0 | some r => if r.2.1 = 1 then r.2.2.1 else 0
def netI (I : Inn) (o : Int) : Int := amtI I o 1 - amtI I o 4

theorem valid_party {p s : Int} {l : List R5} (h : validB p s l = true) : p = 0 ∨ p = 1 ∨ p = 2 := by
  unfold validB checkB at h; simp at h; omega
theorem valid_seq {p s : Int} {l : List R5} (h : validB p s l = true) : 1 ≤ s ∧ s ≤ 1073741824 := by
  unfold validB at h; simp at h; exact h.1
theorem valid_len {p s : Int} {l : List R5} (h : validB p s l = true) : l.length ≤ 400 := by
  unfold validB checkB at h; simp at h; omega
theorem valid_rows {p s : Int} {l : List R5} (h : validB p s l = true) : ∀ x ∈ l, okRow p x = true := by
  unfold validB checkB at h; simp only [Bool.and_eq_true] at h; exact okTo_rows h.2.2
theorem valid_rise {p s : Int} {l : List R5} (h : validB p s l = true) : l.Pairwise fun x y => lessR x y = true := by
  unfold validB checkB at h; simp only [Bool.and_eq_true] at h; exact okTo_rise h.2.2
theorem ok_rows {p : Int} {x : Stm} (h : Ok p x) : ∀ r ∈ x.2.2, okRow p r = true := by
  rcases h with rfl | ⟨_, h⟩
  · intro r hr; cases hr
  · exact valid_rows h
theorem ok_rise {p : Int} {x : Stm} (h : Ok p x) : x.2.2.Pairwise fun x y => lessR x y = true := by
  rcases h with rfl | ⟨_, h⟩
  · exact List.Pairwise.nil
  · exact valid_rise h
theorem ok_len {p : Int} {x : Stm} (h : Ok p x) : x.2.2.length ≤ 400 := by
  rcases h with rfl | ⟨_, h⟩
  · exact Nat.zero_le _
  · exact valid_len h
theorem ok_seq {p : Int} {x : Stm} (h : Ok p x) : 0 ≤ x.2.1 ∧ x.2.1 ≤ 1073741824 := by
  rcases h with rfl | ⟨_, h⟩
  · exact ⟨Int.le_refl _, by decide⟩
  · have := valid_seq h; omega
theorem okRow_party {p : Int} {x : R5} (h : okRow p x = true) : partyI x.1.2 = p ∧ chk x.1.1 x.1.2 = true := by
  unfold okRow at h; simp only [Bool.and_eq_true] at h
  exact ⟨by simpa using h.1.2, h.1.1⟩
theorem lessR_ne {x y : R5} (h : lessR x y = true) : x.1 ≠ y.1 := by
  intro e; unfold lessR lessB at h; rw [e] at h; simp at h
theorem ok_nodup {p : Int} {x : Stm} (h : Ok p x) : (x.2.2.map (·.1)).Nodup := by
  rw [List.Nodup, List.pairwise_map]
  exact (ok_rise h).imp fun h => lessR_ne h
theorem Fine.at {I : Inn} (h : Fine I) {p : Int} (hp : p = 0 ∨ p = 1 ∨ p = 2) : Ok p (I.at p) := by
  rcases hp with rfl | rfl | rfl
  · exact h.a
  · exact h.b
  · exact h.c
theorem Fine.put {I : Inn} (h : Fine I) {p : Int} {x : Stm} (hx : Ok p x) (hp : p = 0 ∨ p = 1 ∨ p = 2) : Fine (I.put p x) := by
  rcases hp with rfl | rfl | rfl
  · exact ⟨hx, h.b, h.c⟩
  · exact ⟨h.a, hx, h.c⟩
  · exact ⟨h.a, h.b, hx⟩
theorem Fine.nil : Fine nil := ⟨.inl rfl, .inl rfl, .inl rfl⟩
theorem Fine.acc {I : Inn} (h : Fine I) (x : Stm) : Fine (accI I x) := by
  unfold accI accE
  cases hv : validB x.1 x.2.1 x.2.2 with
  | false => simpa using h
  | true =>
    by_cases hs : x.2.1 ≤ (I.at x.1).2.1
    · simpa [hs] using h
    · simp only [hs, if_false, if_true, Bool.true_eq_false]
      exact h.put (.inr ⟨rfl, hv⟩) (valid_party hv)
theorem Fine.nodup {I : Inn} (h : Fine I) : ((rowsAll I).map (·.1)).Nodup := by
  unfold rowsAll
  rw [List.map_append, List.map_append]
  refine List.nodup_append.2 ⟨List.nodup_append.2 ⟨ok_nodup h.a, ok_nodup h.b, ?_⟩, ok_nodup h.c, ?_⟩
  · intro x hx y hy e
    obtain ⟨r, hr, rfl⟩ := List.mem_map.1 hx
    obtain ⟨t, ht, rfl⟩ := List.mem_map.1 hy
    have h1 := (okRow_party (ok_rows h.a r hr)).1
    have h2 := (okRow_party (ok_rows h.b t ht)).1
    rw [e, h2] at h1; cases h1
  · intro x hx y hy e
    obtain ⟨t, ht, rfl⟩ := List.mem_map.1 hy
    have h2 := (okRow_party (ok_rows h.c t ht)).1
    rcases List.mem_append.1 hx with hx | hx
    · obtain ⟨r, hr, rfl⟩ := List.mem_map.1 hx
      have h1 := (okRow_party (ok_rows h.a r hr)).1
      rw [e, h2] at h1; cases h1
    · obtain ⟨r, hr, rfl⟩ := List.mem_map.1 hx
      have h1 := (okRow_party (ok_rows h.b r hr)).1
      rw [e, h2] at h1; cases h1
theorem find_other {p q : Int} {x : Stm} (h : Ok p x) {k : Int × Int} (hk : partyI k.2 = q) (hpq : p ≠ q) : findR x.2.2 k = none := by
  unfold findR
  rw [List.find?_eq_none]
  intro r hr
  have := (okRow_party (ok_rows h r hr)).1
  simp only [decide_eq_true_eq]
  intro e
  rw [e, hk] at this
  exact hpq this.symm
theorem find_append (l m : List R5) (k : Int × Int) : findR (l ++ m) k = (findR l k).or (findR m k) := by unfold findR; rw [List.find?_append]
/-- A key's row stands among its party's. -/
theorem Fine.rowOf_party {I : Inn} (h : Fine I) {k : Int × Int} (hk : chk k.1 k.2 = true) : rowOf I k = findR (I.at (partyI k.2)).2.2 k := by
  unfold rowOf rowsAll
  rw [find_append, find_append]
  have hp : partyI k.2 = 0 ∨ partyI k.2 = 1 ∨ partyI k.2 = 2 := by
    unfold chk at hk; unfold partyI; simp at hk; split
    · omega
    · split
      · omega
      · split
        · omega
        · omega
  rcases hp with e | e | e <;> rw [e]
  · rw [find_other h.b e (by decide), find_other h.c e (by decide), Option.or_none, Option.or_none]; rfl
  · rw [find_other h.a e (by decide), find_other h.c e (by decide), Option.or_none, Option.none_or]; rfl
  · rw [find_other h.a e (by decide), find_other h.b e (by decide), Option.none_or, Option.none_or]; rfl
theorem Fine.rowOf_none {I : Inn} (h : Fine I) {k : Int × Int} (hk : chk k.1 k.2 = false) : rowOf I k = none := by
  unfold rowOf findR
  rw [List.find?_eq_none]
  intro r hr
  simp only [decide_eq_true_eq]
  intro e
  have : chk r.1.1 r.1.2 = true := by
    unfold rowsAll at hr
    rcases List.mem_append.1 hr with hr | hr
    · rcases List.mem_append.1 hr with hr | hr
      · exact (okRow_party (ok_rows h.a r hr)).2
      · exact (okRow_party (ok_rows h.b r hr)).2
    · exact (okRow_party (ok_rows h.c r hr)).2
  rw [e, hk] at this
  cases this
theorem find_mem {l : List R5} {k : Int × Int} {x : R5} (h : findR l k = some x) : x ∈ l ∧ x.1 = k := ⟨List.mem_of_find?_eq_some h, by have := List.find?_some h; simpa using this⟩
theorem find_no {l : List R5} {k : Int × Int} (h : findR l k = none) : ∀ x ∈ l, x.1 ≠ k := fun x hx => by have := List.find?_eq_none.1 h x hx; simpa using this
theorem uniq_of_nodup {l : List R5} (h : (l.map (·.1)).Nodup) : ∀ {x y : R5}, x ∈ l → y ∈ l → x.1 = y.1 → x = y := by
  intro x y hx hy e
  obtain ⟨i, hi⟩ := List.getElem?_of_mem hx
  obtain ⟨j, hj⟩ := List.getElem?_of_mem hy
  obtain ⟨hi1, hi2⟩ := List.getElem?_eq_some_iff.1 hi
  obtain ⟨hj1, hj2⟩ := List.getElem?_eq_some_iff.1 hj
  rw [List.Nodup, List.pairwise_map] at h
  rcases Nat.lt_trichotomy i j with hij | hij | hij
  · exact absurd e (by have := List.pairwise_iff_getElem.1 h i j hi1 hj1 hij; rw [hi2, hj2] at this; exact this)
  · subst hij; rw [hi] at hj; exact Option.some.inj hj
  · exact absurd e.symm (by have := List.pairwise_iff_getElem.1 h j i hj1 hi1 hij; rw [hi2, hj2] at this; exact this)
theorem find_of {l : List R5} (h : (l.map (·.1)).Nodup) {x : R5} (hx : x ∈ l) : findR l x.1 = some x := by
  cases e : findR l x.1 with
  | none => exact absurd rfl (find_no e x hx)
  | some y => rw [uniq_of_nodup h (find_mem e).1 hx (find_mem e).2]
end In
end Go.Proofs.YtiagdpfmmjhgcaaGreatDoor
