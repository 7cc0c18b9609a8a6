/- Statements that were accepted, plain: the newest of each party; what they say of a deed. -/
import Derived.Test.YtlkncmpengpbiaaGreatDoorRowValid
import Derived.Test.YtlkncmpengpbiaaGreatDoorSagaSpec
namespace Go.Proofs.YtlkncmpengpbiaaGreatDoor
open Key Rw

namespace In
/-- A statement: party, number, rows. -/
abbrev Stm : Type := Int × Int × List R5
structure Inn where
  a : Stm
  b : Stm
  c : Stm
def Inn.at (I : Inn) (p : Int) : Stm := if p = 0 then I.a else if p = 1 then I.b else I.c
def Inn.put (I : Inn) (p : Int) (x : Stm) : Inn := if p = 0 then { I with a := x } else if p = 1 then { I with b := x } else { I with c := x }
def noS : Stm := (0, 0, [])
def nil : Inn := ⟨noS, noS, noS⟩
def Ok (p : Int) (x : Stm) : Prop := x = noS ∨ x.1 = p ∧ validB p x.2.1 x.2.2 = true
structure Fine (I : Inn) : Prop where
  a : Ok 0 I.a
  b : Ok 1 I.b
  c : Ok 2 I.c
def rowsAll (I : Inn) : List R5 := I.a.2.2 ++ I.b.2.2 ++ I.c.2.2
def findR (l : List R5) (k : Int × Int) : Option R5 := l.find? fun x => decide (x.1 = k)
def rowOf (I : Inn) (k : Int × Int) : Option R5 := findR (rowsAll I) k
/-- How a statement is taken in. -/
def accE (I : Inn) (x : Stm) : Int := if validB x.1 x.2.1 x.2.2 = false then 2 else if x.2.1 ≤ (I.at x.1).2.1 then 93 else 0
def accI (I : Inn) (x : Stm) : Inn := if accE I x = 0 then I.put x.1 x else I
def amtI (I : Inn) (o d : Int) : Int := match rowOf I (o, d) with | none => 0 | some r => if r.2.1 = 1 then r.2.2.1 else 0
def netI (I : Inn) (o : Int) : Int := amtI I o 1 - amtI I o 4

theorem valid_party {p s : Int} {l : List R5} (h : validB p s l = true) : p = 0 ∨ p = 1 ∨ p = 2 := by
  unfold validB checkB at h; simp at h; omega
theorem valid_seq {p s : Int} {l : List R5} (h : validB p s l = true) : 1 ≤ s ∧ s ≤ 1073741824 := by
  unfold validB at h; simp at h; exact h.1
theorem valid_len {p s : Int} {l : List R5} (h : validB p s l = true) : l.length ≤ 400 := by
  unfold validB checkB at h; simp at h; omega
theorem valid_rows {p s : Int} {l : List R5} (h : validB p s l = true) : ∀ x ∈ l, okRow p x = true := by
  unfold validB checkB at h; simp only [Bool.and_eq_true] at h; exact okTo_rows h.2.2
theorem valid_rise {p s : Int} {l : List R5} (h : validB p s l = true) : l.Pairwise fun x y => lessR x y = true := by
  unfold validB checkB at h; simp only [Bool.and_eq_true] at h; exact okTo_rise h.2.2
theorem ok_rows {p : Int} {x : Stm} (h : Ok p x) : ∀ r ∈ x.2.2, okRow p r = true := by
  rcases h with rfl | ⟨_, h⟩
  · intro r hr; cases hr
  · exact valid_rows h
theorem ok_rise {p : Int} {x : Stm} (h : Ok p x) : x.2.2.Pairwise fun x y => lessR x y = true := by
  rcases h with rfl | ⟨_, h⟩
  · exact List.Pairwise.nil
  · exact valid_rise h
theorem ok_len {p : Int} {x : Stm} (h : Ok p x) : x.2.2.length ≤ 400 := by
  rcases h with rfl | ⟨_, h⟩
  · exact Nat.zero_le _
  · exact valid_len h
theorem ok_seq {p : Int} {x : Stm} (h : Ok p x) : 0 ≤ x.2.1 ∧ x.2.1 ≤ 1073741824 := by
  rcases h with rfl | ⟨_, h⟩
  · exact ⟨Int.le_refl _, by decide⟩
  · have := valid_seq h; omega
theorem okRow_party {p : Int} {x : R5} (h : okRow p x = true) : partyI x.1.2 = p ∧ chk x.1.1 x.1.2 = true := by
  unfold okRow at h; simp only [Bool.and_eq_true] at h
  exact ⟨by simpa using h.1.2, h.1.1⟩
theorem lessR_ne {x y : R5} (h : lessR x y = true) : x.1 ≠ y.1 := by
  intro e; unfold lessR lessB at h; rw [e] at h; simp at h
theorem ok_nodup {p : Int} {x : Stm} (h : Ok p x) : (x.2.2.map (·.1)).Nodup := by
  rw [List.Nodup, List.pairwise_map]
  exact (ok_rise h).imp fun h => lessR_ne h
theorem Fine.at {I : Inn} (h : Fine I) {p : Int} (hp : p = 0 ∨ p = 1 ∨ p = 2) : Ok p (I.at p) := by
  rcases hp with rfl | rfl | rfl
  · exact h.a
  · exact h.b
  · exact h.c
theorem Fine.put {I : Inn} (h : Fine I) {p : Int} {x : Stm} (hx : Ok p x) (hp : p = 0 ∨ p = 1 ∨ p = 2) : Fine (I.put p x) := by
  rcases hp with rfl | rfl | rfl
  · exact ⟨hx, h.b, h.c⟩
  · exact ⟨h.a, hx, h.c⟩
  · exact ⟨h.a, h.b, hx⟩
theorem Fine.nil : Fine nil := ⟨.inl rfl, .inl rfl, .inl rfl⟩
theorem Fine.acc {I : Inn} (h : Fine I) (x : Stm) : Fine (accI I x) := by
  unfold accI accE
  cases hv : validB x.1 x.2.1 x.2.2 with
  | false => simpa using h
  | true =>
    by_cases hs : x.2.1 ≤ (I.at x.1).2.1
    · simpa [hs] using h
    · simp only [hs, if_false, if_true, Bool.true_eq_false]
      exact h.put (.inr ⟨rfl, hv⟩) (valid_party hv)
theorem Fine.nodup {I : Inn} (h : Fine I) : ((rowsAll I).map (·.1)).Nodup := by
  unfold rowsAll
  rw [List.map_append, List.map_append]
  refine List.nodup_append.2 ⟨List.nodup_append.2 ⟨ok_nodup h.a, ok_nodup h.b, ?_⟩, ok_nodup h.c, ?_⟩
  · intro x hx y hy e
    obtain ⟨r, hr, rfl⟩ := List.mem_map.1 hx
    obtain ⟨t, ht, rfl⟩ := List.mem_map.1 hy
    have h1 := (okRow_party (ok_rows h.a r hr)).1
    have h2 := (okRow_party (ok_rows h.b t ht)).1
    rw [e, h2] at h1; cases h1
  · intro x hx y hy e
    obtain ⟨t, ht, rfl⟩ := List.mem_map.1 hy
    have h2 := (okRow_party (ok_rows h.c t ht)).1
    rcases List.mem_append.1 hx with hx | hx
    · obtain ⟨r, hr, rfl⟩ := List.mem_map.1 hx
      have h1 := (okRow_party (ok_rows h.a r hr)).1
      rw [e, h2] at h1; cases h1
    · obtain ⟨r, hr, rfl⟩ := List.mem_map.1 hx
      have h1 := (okRow_party (ok_rows h.b r hr)).1
      rw [e, h2] at h1; cases h1
theorem find_other {p q : Int} {x : Stm} (h : Ok p x) {k : Int × Int} (hk : partyI k.2 = q) (hpq : p ≠ q) : findR x.2.2 k = none := by
  unfold findR
  rw [List.find?_eq_none]
  intro r hr
  have := (okRow_party (ok_rows h r hr)).1
  simp only [decide_eq_true_eq]
  intro e
  rw [e, hk] at this
  exact hpq this.symm
theorem find_append (l m : List R5) (k : Int × Int) : findR (l ++ m) k = (findR l k).or (findR m k) := by unfold findR; rw [List.find?_append]
/-- A key's row stands among its party's. -/
theorem Fine.rowOf_party {I : Inn} (h : Fine I) {k : Int × Int} (hk : chk k.1 k.2 = true) : rowOf I k = findR (I.at (partyI k.2)).2.2 k := by
  unfold rowOf rowsAll
  rw [find_append, find_append]
  have hp : partyI k.2 = 0 ∨ partyI k.2 = 1 ∨ partyI k.2 = 2 := by
    unfold chk at hk; unfold partyI; simp at hk; split
    · omega
    · split
      · omega
      · split
        · omega
        · omega
  rcases hp with e | e | e <;> rw [e]
  · rw [find_other h.b e (by decide), find_other h.c e (by decide), Option.or_none, Option.or_none]; rfl
  · rw [find_other h.a e (by decide), find_other h.c e (by decide), Option.or_none, Option.none_or]; rfl
  · rw [find_other h.a e (by decide), find_other h.b e (by decide), Option.none_or, Option.none_or]; rfl
theorem Fine.rowOf_none {I : Inn} (h : Fine I) {k : Int × Int} (hk : chk k.1 k.2 = false) : rowOf I k = none := by
  unfold rowOf findR
  rw [List.find?_eq_none]
  intro r hr
  simp only [decide_eq_true_eq]
  intro e
  have : chk r.1.1 r.1.2 = true := by
    unfold rowsAll at hr
    rcases List.mem_append.1 hr with hr | hr
    · rcases List.mem_append.1 hr with hr | hr
      · exact (okRow_party (ok_rows h.a r hr)).2
      · exact (okRow_party (ok_rows h.b r hr)).2
    · exact (okRow_party (ok_rows h.c r hr)).2
  rw [e, hk] at this
  cases this
theorem find_mem {l : List R5} {k : Int × Int} {x : R5} (h : findR l k = some x) : x ∈ l ∧ x.1 = k := ⟨List.mem_of_find?_eq_some h, by have := List.find?_some h; simpa using this⟩
theorem find_no {l : List R5} {k : Int × Int} (h : findR l k = none) : ∀ x ∈ l, x.1 ≠ k := fun x hx => by have := List.find?_eq_none.1 h x hx; simpa using this
theorem uniq_of_nodup {l : List R5} (h : (l.map (·.1)).Nodup) : ∀ {x y : R5}, x ∈ l → y ∈ l → x.1 = y.1 → x = y := by
  intro x y hx hy e
  obtain ⟨i, hi⟩ := List.getElem?_of_mem hx
  obtain ⟨j, hj⟩ := List.getElem?_of_mem hy
  obtain ⟨hi1, hi2⟩ := List.getElem?_eq_some_iff.1 hi
  obtain ⟨hj1, hj2⟩ := List.getElem?_eq_some_iff.1 hj
  rw [List.Nodup, List.pairwise_map] at h
  rcases Nat.lt_trichotomy i j with hij | hij | hij
  · exact absurd e (by have := List.pairwise_iff_getElem.1 h i j hi1 hj1 hij; rw [hi2, hj2] at this; exact this)
  · subst hij; rw [hi] at hj; exact Option.some.inj hj
  · exact absurd e.symm (by have := List.pairwise_iff_getElem.1 h j i hj1 hi1 hij; rw [hi2, hj2] at this; exact this)
theorem find_of {l : List R5} (h : (l.map (·.1)).Nodup) {x : R5} (hx : x ∈ l) : findR l x.1 = some x := by
  cases e : findR l x.1 with
  | none => exact absurd rfl (find_no e x hx)
  | some y => rw [uniq_of_nodup h (find_mem e).1 hx (find_mem e).2]
end In
end Go.Proofs.YtlkncmpengpbiaaGreatDoor
/- Where sagas and statements differ, plain: what is collected, laid in order. No Go is in sight. -/
namespace Go.Proofs.YtlkncmpengpbiaaGreatDoor
open Key Rw Sa In

namespace Ma
/-- A difference: its key, its kind. -/
abbrev D3 : Type := (Int × Int) × Int
def lessD (x y : D3) : Bool := lessB x.1.1 x.1.2 y.1.1 y.1.2
def layD (l : List D3) (x : D3) : List D3 := l.takeWhile (fun y => lessD y x) ++ x :: l.dropWhile (fun y => lessD y x)
def firstB (l : List Sg) (j : Nat) (i : Int) : Bool := (l.take j).all fun t => decide (t.id ≠ i)
def kindOf (I : Inn) (s : Sg) (d : Nat) : Int := match rowOf I (s.id, (d : Int)) with | none => kindI s d 0 0 0 false | some r => kindI s d r.2.1 r.2.2.1 r.2.2.2 true
def deedD (I : Inn) (s : Sg) (d : Nat) : List D3 := if (I.at (partyI d)).2.1 = 0 then [] else if 0 < kindOf I s d then [((s.id, (d : Int)), kindOf I s d)] else []
def deedsD (I : Inn) (s : Sg) (n : Nat) : List D3 := (List.range n).flatMap (deedD I s)
def sagaD (I : Inn) (l : List Sg) (j : Nat) : List D3 := match l[j]? with | none => [] | some s => if firstB l j s.id then deedsD I s 6 else []
def sagasD (I : Inn) (l : List Sg) (n : Nat) : List D3 := (List.range n).flatMap (sagaD I l)
def knownB (l : List Sg) (i : Int) : Bool := l.any fun s => decide (s.id = i)
def rowD (l : List Sg) (r : R5) : List D3 := if knownB l r.1.1 then [] else [(r.1, 5)]
def rowsD (l : List Sg) (rs : List R5) : List D3 := rs.flatMap (rowD l)
def allD (l : List Sg) (I : Inn) : List D3 := sagasD I l l.length ++ rowsD l (rowsAll I)
def findD (l : List Sg) (I : Inn) : List D3 := (allD l I).foldl layD []

theorem less_trans {x y z : D3} (h1 : lessD x y = true) (h2 : lessD y z = true) : lessD x z = true := by unfold lessD lessB at *; simp at *; omega
theorem less_ne {x y : D3} (h : lessD x y = true) : x.1 ≠ y.1 := by
  intro e; unfold lessD lessB at h; rw [e] at h; simp at h
theorem less_tri {x y : D3} (h1 : lessD x y = false) (h2 : lessD y x = false) : x.1 = y.1 := by
  unfold lessD lessB at *; simp at *; exact Prod.ext (by omega) (by omega)
theorem less_asym {x y : D3} (h : lessD x y = true) : lessD y x = false := by
  cases e : lessD y x
  · rfl
  · exact absurd rfl (less_ne (less_trans h e))
def Rise (l : List D3) : Prop := l.Pairwise fun x y => lessD x y = true
theorem lay_perm (l : List D3) (x : D3) : (x :: l).Perm (layD l x) := by
  unfold layD
  refine List.Perm.trans ?_ List.perm_middle.symm
  rw [List.takeWhile_append_dropWhile]
theorem mem_lay {l : List D3} {x y : D3} : y ∈ layD l x ↔ y = x ∨ y ∈ l := by rw [← (lay_perm l x).mem_iff, List.mem_cons]
theorem lay_len (l : List D3) (x : D3) : (layD l x).length = l.length + 1 := by rw [← (lay_perm l x).length_eq, List.length_cons]
theorem take_less {x : D3} : ∀ {l : List D3}, ∀ y ∈ l.takeWhile (fun y => lessD y x), lessD y x = true := by
  intro l y hy
  induction l with
  | nil => cases hy
  | cons z l ih =>
    rw [List.takeWhile_cons] at hy
    split at hy
    · rcases List.mem_cons.1 hy with rfl | hy
      · assumption
      · exact ih hy
    · cases hy
theorem drop_more {l : List D3} (h : Rise l) {x : D3} (hx : ∀ y ∈ l, y.1 ≠ x.1) : ∀ y ∈ l.dropWhile (fun y => lessD y x), lessD x y = true := by
  intro y hy
  induction l with
  | nil => cases hy
  | cons z l ih =>
    rw [Rise, List.pairwise_cons] at h
    rw [List.dropWhile_cons] at hy
    split at hy
    · exact ih h.2 (fun y hy => hx y (List.mem_cons_of_mem _ hy)) hy
    · rename_i hz
      have hxz : lessD x z = true := by
        cases e : lessD x z
        · exact absurd (less_tri (by simpa using hz) e) (hx z (List.mem_cons_self ..))
        · rfl
      rcases List.mem_cons.1 hy with rfl | hy
      · exact hxz
      · exact less_trans hxz (h.1 _ hy)
theorem Rise.lay {l : List D3} (h : Rise l) {x : D3} (hx : ∀ y ∈ l, y.1 ≠ x.1) : Rise (layD l x) := by
  have ht := take_less (x := x) (l := l)
  have hd := drop_more h hx
  unfold layD
  rw [Rise, List.pairwise_append, List.pairwise_cons]
  refine ⟨h.sublist (List.takeWhile_sublist _), ⟨hd, h.sublist (List.dropWhile_sublist _)⟩, fun a ha b hb => ?_⟩
  rcases List.mem_cons.1 hb with rfl | hb
  · exact ht a ha
  · exact less_trans (ht a ha) (hd b hb)
theorem fold_perm : ∀ (C acc : List D3), (C.foldl layD acc).Perm (acc ++ C)
  | [], acc => by simp
  | x :: C, acc => by
    rw [List.foldl_cons]
    refine (fold_perm C (layD acc x)).trans ?_
    refine ((lay_perm acc x).symm.append_right C).trans ?_
    exact List.perm_middle.symm
theorem fold_rise : ∀ (C acc : List D3), Rise acc → ((acc ++ C).map (·.1)).Nodup → Rise (C.foldl layD acc)
  | [], acc, h, _ => h
  | x :: C, acc, h, hn => by
    rw [List.foldl_cons]
    refine fold_rise C _ (h.lay fun y hy e => ?_) ?_
    · rw [List.map_append, List.nodup_append] at hn
      exact hn.2.2 _ (List.mem_map.2 ⟨y, hy, rfl⟩) _ (List.mem_map.2 ⟨x, List.mem_cons_self .., rfl⟩) e
    · have hp : (acc ++ x :: C).Perm (layD acc x ++ C) := List.perm_middle.trans ((lay_perm acc x).append_right C)
      exact (hp.map (·.1)).nodup_iff.1 hn
theorem fold_eq {C L : List D3} (hp : L.Perm C) (hs : L.Pairwise fun x y => lessD y x = false) (hn : (C.map (·.1)).Nodup) : L = C.foldl layD [] := by
  have h1 := fold_perm C []
  have h2 := fold_rise C [] List.Pairwise.nil (by simpa using hn)
  rw [List.nil_append] at h1
  refine List.Perm.eq_of_pairwise (le := fun x y : D3 => lessD y x = false) (fun x y hx hy e1 e2 => ?_) hs (h2.imp fun h => less_asym h) (hp.trans h1.symm)
  have hxy := less_tri e2 e1
  have hy' : y ∈ L := hp.mem_iff.2 (h1.mem_iff.1 hy)
  obtain ⟨i, hi⟩ := List.getElem?_of_mem hx
  obtain ⟨j, hj⟩ := List.getElem?_of_mem hy'
  obtain ⟨hi1, hi2⟩ := List.getElem?_eq_some_iff.1 hi
  obtain ⟨hj1, hj2⟩ := List.getElem?_eq_some_iff.1 hj
  have hnl : (L.map (·.1)).Nodup := (hp.map (·.1)).nodup_iff.2 hn
  rw [List.Nodup, List.pairwise_map] at hnl
  rcases Nat.lt_trichotomy i j with hij | hij | hij
  · exact absurd hxy (by have := List.pairwise_iff_getElem.1 hnl i j hi1 hj1 hij; rw [hi2, hj2] at this; exact this)
  · subst hij; rw [hi] at hj; exact Option.some.inj hj
  · exact absurd hxy.symm (by have := List.pairwise_iff_getElem.1 hnl j i hj1 hi1 hij; rw [hi2, hj2] at this; exact this)

theorem deedsD_succ (I : Inn) (s : Sg) (n : Nat) : deedsD I s (n + 1) = deedsD I s n ++ deedD I s n := by unfold deedsD; rw [List.range_succ, List.flatMap_append]; simp
theorem sagasD_succ (I : Inn) (l : List Sg) (n : Nat) : sagasD I l (n + 1) = sagasD I l n ++ sagaD I l n := by unfold sagasD; rw [List.range_succ, List.flatMap_append]; simp
theorem deed_keys {I : Inn} {s : Sg} {d : Nat} : ∀ x ∈ deedD I s d, x.1 = (s.id, (d : Int)) ∧ 0 < x.2 := by
  intro x hx
  unfold deedD at hx
  split at hx
  · cases hx
  · split at hx
    · rw [List.mem_singleton] at hx; subst hx; exact ⟨rfl, by assumption⟩
    · cases hx
theorem deed_len (I : Inn) (s : Sg) (d : Nat) : (deedD I s d).length ≤ 1 := by
  unfold deedD; split
  · simp
  · split <;> simp
theorem deeds_len (I : Inn) (s : Sg) (n : Nat) : (deedsD I s n).length ≤ n := by
  induction n with
  | zero => simp [deedsD]
  | succ n ih => rw [deedsD_succ, List.length_append]; have := deed_len I s n; omega
theorem mem_deeds {I : Inn} {s : Sg} {n : Nat} {x : D3} (h : x ∈ deedsD I s n) : ∃ d, d < n ∧ x.1 = (s.id, (d : Int)) ∧ x ∈ deedD I s d := by
  obtain ⟨d, hd, hx⟩ := List.mem_flatMap.1 h
  exact ⟨d, List.mem_range.1 hd, (deed_keys x hx).1, hx⟩
theorem deed_nodup (I : Inn) (s : Sg) (d : Nat) : ((deedD I s d).map (·.1)).Nodup := by
  unfold deedD; split
  · simp
  · split <;> simp
theorem deeds_nodup (I : Inn) (s : Sg) (n : Nat) : ((deedsD I s n).map (·.1)).Nodup := by
  induction n with
  | zero => simp [deedsD]
  | succ n ih =>
    rw [deedsD_succ, List.map_append]
    refine List.nodup_append.2 ⟨ih, deed_nodup I s n, fun a ha b hb e => ?_⟩
    obtain ⟨x, hx, rfl⟩ := List.mem_map.1 ha
    obtain ⟨y, hy, rfl⟩ := List.mem_map.1 hb
    obtain ⟨d, hd, hk, _⟩ := mem_deeds hx
    rw [hk, (deed_keys y hy).1] at e
    injection e with _ e
    omega
theorem saga_len (I : Inn) (l : List Sg) (j : Nat) : (sagaD I l j).length ≤ 6 := by
  unfold sagaD
  split
  · simp
  · split
    · exact deeds_len _ _ _
    · simp
theorem sagas_len (I : Inn) (l : List Sg) (n : Nat) : (sagasD I l n).length ≤ 6 * n := by
  induction n with
  | zero => simp [sagasD]
  | succ n ih => rw [sagasD_succ, List.length_append]; have := saga_len I l n; omega
theorem mem_saga {I : Inn} {l : List Sg} {j : Nat} {x : D3} (h : x ∈ sagaD I l j) : ∃ s, l[j]? = some s ∧ firstB l j s.id = true ∧ x ∈ deedsD I s 6 := by
  unfold sagaD at h
  split at h
  · cases h
  · rename_i s hs
    split at h
    · exact ⟨s, hs, by assumption, h⟩
    · cases h
theorem mem_sagas {I : Inn} {l : List Sg} {n : Nat} {x : D3} (h : x ∈ sagasD I l n) : ∃ j s, j < n ∧ l[j]? = some s ∧ firstB l j s.id = true ∧ x ∈ deedsD I s 6 := by
  obtain ⟨j, hj, hx⟩ := List.mem_flatMap.1 h
  obtain ⟨s, h1, h2, h3⟩ := mem_saga hx
  exact ⟨j, s, List.mem_range.1 hj, h1, h2, h3⟩
theorem saga_nodup (I : Inn) (l : List Sg) (j : Nat) : ((sagaD I l j).map (·.1)).Nodup := by
  unfold sagaD
  split
  · simp
  · split
    · exact deeds_nodup _ _ _
    · simp
theorem sagas_nodup (I : Inn) (l : List Sg) (n : Nat) : ((sagasD I l n).map (·.1)).Nodup := by
  induction n with
  | zero => simp [sagasD]
  | succ n ih =>
    rw [sagasD_succ, List.map_append]
    refine List.nodup_append.2 ⟨ih, saga_nodup I l n, fun a ha b hb e => ?_⟩
    obtain ⟨x, hx, rfl⟩ := List.mem_map.1 ha
    obtain ⟨y, hy, rfl⟩ := List.mem_map.1 hb
    obtain ⟨j, s, hj, hs, _, hxs⟩ := mem_sagas hx
    obtain ⟨t, ht, hf, hyt⟩ := mem_saga hy
    obtain ⟨d, _, hk, _⟩ := mem_deeds hxs
    obtain ⟨d', _, hk', _⟩ := mem_deeds hyt
    rw [hk, hk'] at e
    injection e with e _
    unfold firstB at hf
    rw [List.all_eq_true] at hf
    have hm : s ∈ l.take n := List.mem_of_getElem? (i := j) (by rw [List.getElem?_take_of_lt hj]; exact hs)
    have := hf s hm
    simp only [decide_eq_true_eq] at this
    exact this e
theorem mem_rows {l : List Sg} {rs : List R5} {x : D3} (h : x ∈ rowsD l rs) : ∃ r ∈ rs, knownB l r.1.1 = false ∧ x = (r.1, 5) := by
  obtain ⟨r, hr, hx⟩ := List.mem_flatMap.1 h
  unfold rowD at hx
  split at hx
  · cases hx
  · rw [List.mem_singleton] at hx
    rename_i hk
    exact ⟨r, hr, by simpa using hk, hx⟩
theorem rowsD_len (l : List Sg) (rs : List R5) : (rowsD l rs).length ≤ rs.length := by
  induction rs with
  | nil => simp [rowsD]
  | cons r rs ih =>
    have e : rowsD l (r :: rs) = rowD l r ++ rowsD l rs := by unfold rowsD; rw [List.flatMap_cons]
    have h1 : (rowD l r).length ≤ 1 := by unfold rowD; split <;> simp
    rw [e, List.length_append, List.length_cons]
    omega
theorem rowsD_nodup (l : List Sg) : ∀ {rs : List R5}, (rs.map (·.1)).Nodup → ((rowsD l rs).map (·.1)).Nodup
  | [], _ => by simp [rowsD]
  | r :: rs, h => by
    rw [List.map_cons, List.nodup_cons] at h
    have ih := rowsD_nodup l h.2
    have e : rowsD l (r :: rs) = rowD l r ++ rowsD l rs := by unfold rowsD; rw [List.flatMap_cons]
    rw [e, List.map_append]
    refine List.nodup_append.2 ⟨by unfold rowD; split <;> simp, ih, fun a ha b hb e => ?_⟩
    obtain ⟨x, hx, rfl⟩ := List.mem_map.1 ha
    obtain ⟨y, hy, rfl⟩ := List.mem_map.1 hb
    obtain ⟨t, ht, _, rfl⟩ := mem_rows hy
    have hx1 : x.1 = r.1 := by
      unfold rowD at hx
      split at hx
      · cases hx
      · rw [List.mem_singleton] at hx; rw [hx]
    rw [hx1] at e
    exact h.1 (List.mem_map.2 ⟨t, ht, e.symm⟩)
theorem all_nodup (l : List Sg) {I : Inn} (h : Fine I) : ((allD l I).map (·.1)).Nodup := by
  unfold allD
  rw [List.map_append]
  refine List.nodup_append.2 ⟨sagas_nodup I l _, rowsD_nodup l h.nodup, fun a ha b hb e => ?_⟩
  obtain ⟨x, hx, rfl⟩ := List.mem_map.1 ha
  obtain ⟨y, hy, rfl⟩ := List.mem_map.1 hb
  obtain ⟨t, ht, hk, rfl⟩ := mem_rows hy
  obtain ⟨j, s, hj, hs, _, hxs⟩ := mem_sagas hx
  obtain ⟨d, _, hk', _⟩ := mem_deeds hxs
  rw [hk'] at e
  have e1 : s.id = t.1.1 := congrArg Prod.fst e
  unfold knownB at hk
  rw [List.any_eq_false] at hk
  have := hk s (List.mem_of_getElem? hs)
  simp only [decide_eq_true_eq] at this
  exact this e1
theorem find_eq (l : List Sg) {I : Inn} (h : Fine I) {L : List D3} (hp : L.Perm (allD l I)) (hs : L.Pairwise fun x y => lessD y x = false) : L = findD l I := fold_eq hp hs (all_nodup l h)
theorem find_perm (l : List Sg) (I : Inn) : (findD l I).Perm (allD l I) := by have := fold_perm (allD l I) []; rwa [List.nil_append] at this
theorem find_rise (l : List Sg) {I : Inn} (h : Fine I) : Rise (findD l I) := fold_rise _ [] List.Pairwise.nil (by simpa using all_nodup l h)
end Ma
end Go.Proofs.YtlkncmpengpbiaaGreatDoor
