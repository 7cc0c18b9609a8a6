/- What a party does, as plain functions on its rows and on what is reserved; no Go is in sight. -/
import Derived.Test.YtkmpagijdhhinaaDoorPartyMem
import Derived.Test.YtkmpagijdhhinaaDoorOrdersMay
namespace Go.Proofs.YtkmpagijdhhinaaDoor
open Key Od

namespace Pa
/-- The rows, rising; what is reserved and not released (order, name, quantity); what was ever reserved. -/
structure St where
  rows : List R5
  gs : List (Int × List UInt8 × Int)
  rs : List (Int × List UInt8)
/-- A message. -/
structure Ms where
  to : Int
  o : Int
  d : Int
  sku : List UInt8
  qty : Int
  amt : Int
  cd : Int
def Ms.may (m : Ms) : Bool := mayB m.to m.o m.d m.sku m.qty m.amt m.cd
def lessR (x y : R5) : Bool := lessB x.1.1 x.1.2 y.1.1 y.1.2
def findR (l : List R5) (k : Int × Int) : Option R5 := l.find? fun x => decide (x.1 = k)
def insR (l : List R5) (x : R5) : List R5 := l.takeWhile (fun y => lessR y x) ++ x :: l.dropWhile (fun y => lessR y x)
def used (g : List (Int × List UInt8 × Int)) (s : List UInt8) : Int := (g.map fun x => if x.2.1 = s then x.2.2 else 0).sum
def freeG (g : List (Int × List UInt8 × Int)) (o : Int) : List (Int × List UInt8 × Int) := g.filter fun x => decide (x.1 ≠ o)
def doneB (kind stock limit : Int) (st : St) (m : Ms) : Bool := if kind = 1 then decide (m.qty ≤ stock - used st.gs m.sku) else if kind = 0 then decide (m.amt ≤ limit) else decide (m.qty ≤ limit)
def wasR (st : St) (m : Ms) : R5 := (findR st.rows (m.o, m.d - 3)).getD ((m.o, m.d - 3), 2, 0, 0)
/-- Behind a deed that undoes one. -/
def undoS (kind : Int) (st : St) (m : Ms) : St :=
  ⟨insR (if (findR st.rows (m.o, m.d - 3)).isSome then st.rows else insR st.rows ((m.o, m.d - 3), 2, 0, 0)) ((m.o, m.d), 1, (wasR st m).2.2.1, (wasR st m).2.2.2),
   if kind = 1 then freeG st.gs m.o else st.gs, st.rs⟩
/-- Behind a deed that undoes none. -/
def doS (kind stock limit : Int) (st : St) (m : Ms) : St :=
  if doneB kind stock limit st m then ⟨insR st.rows ((m.o, m.d), 1, m.amt, m.qty), if kind = 1 then st.gs ++ [(m.o, m.sku, m.qty)] else st.gs, if kind = 1 then st.rs ++ [(m.o, m.sku)] else st.rs⟩
  else ⟨insR st.rows ((m.o, m.d), 2, 0, 0), st.gs, st.rs⟩
def nextS (kind stock limit : Int) (st : St) (m : Ms) : St := if 3 ≤ m.d then undoS kind st m else doS kind stock limit st m
/-- Behind a message. -/
def askS (kind stock limit : Int) (st : St) (m : Ms) : St :=
  if m.may && decide (m.to = kind) then (if (findR st.rows (m.o, m.d)).isSome then st else nextS kind stock limit st m) else st
/-- Its answer: the code; none: it is none's. -/
def ansS (kind stock limit : Int) (st : St) (m : Ms) : Option Int :=
  if m.may && decide (m.to = kind) then (findR (askS kind stock limit st m).rows (m.o, m.d)).map (·.2.1) else none

theorem less_trans {x y z : R5} (h1 : lessR x y = true) (h2 : lessR y z = true) : lessR x z = true := by unfold lessR lessB at *; simp at *; omega
theorem less_ne {x y : R5} (h : lessR x y = true) : x.1 ≠ y.1 := by
  intro e; unfold lessR lessB at h; rw [e] at h; simp at h
theorem less_tri {x y : R5} (h1 : lessR x y = false) (h2 : lessR y x = false) : x.1 = y.1 := by
  unfold lessR lessB at *; simp at *; exact Prod.ext (by omega) (by omega)
theorem less_asym {x y : R5} (h : lessR x y = true) : lessR y x = false := by
  cases e : lessR y x
  · rfl
  · exact absurd rfl (less_ne (less_trans h e))

/-- Rows that rise. -/
def Rise (l : List R5) : Prop := l.Pairwise fun x y => lessR x y = true
theorem Rise.uniq {l : List R5} (h : Rise l) : ∀ {x y : R5}, x ∈ l → y ∈ l → x.1 = y.1 → x = y := by
  intro x y hx hy e
  induction l with
  | nil => cases hx
  | cons z l ih =>
    rw [Rise, List.pairwise_cons] at h
    rcases List.mem_cons.1 hx with rfl | hx'
    · rcases List.mem_cons.1 hy with rfl | hy
      · rfl
      · exact absurd e (less_ne (h.1 _ hy))
    · rcases List.mem_cons.1 hy with rfl | hy
      · exact absurd e.symm (less_ne (h.1 x hx'))
      · exact ih h.2 hx' hy
theorem find_some {l : List R5} {k : Int × Int} {x : R5} (h : findR l k = some x) : x ∈ l ∧ x.1 = k := ⟨List.mem_of_find?_eq_some h, by have := List.find?_some h; simpa using this⟩
theorem find_none {l : List R5} {k : Int × Int} (h : findR l k = none) : ∀ x ∈ l, x.1 ≠ k := fun x hx => by have := List.find?_eq_none.1 h x hx; simpa using this
theorem find_of {l : List R5} (h : Rise l) {x : R5} (hx : x ∈ l) : findR l x.1 = some x := by
  cases e : findR l x.1 with
  | none => exact absurd rfl (find_none e x hx)
  | some y => rw [h.uniq (find_some e).1 hx (find_some e).2]
theorem mem_ins {l : List R5} {x y : R5} : y ∈ insR l x ↔ y = x ∨ y ∈ l := by
  unfold insR
  have : y ∈ l ↔ y ∈ l.takeWhile (fun y => lessR y x) ∨ y ∈ l.dropWhile (fun y => lessR y x) := by rw [← List.mem_append, List.takeWhile_append_dropWhile]
  rw [this]
  simp only [List.mem_append, List.mem_cons]
  constructor
  · rintro (h | h | h)
    · exact .inr (.inl h)
    · exact .inl h
    · exact .inr (.inr h)
  · rintro (h | h | h)
    · exact .inr (.inl h)
    · exact .inl h
    · exact .inr (.inr h)
theorem ins_len (l : List R5) (x : R5) : (insR l x).length = l.length + 1 := by
  unfold insR
  have := congrArg List.length (List.takeWhile_append_dropWhile (p := fun y => lessR y x) (l := l))
  rw [List.length_append] at this
  rw [List.length_append, List.length_cons]
  omega
theorem ins_perm (l : List R5) (x : R5) : (x :: l).Perm (insR l x) := by
  unfold insR
  refine List.Perm.trans ?_ List.perm_middle.symm
  rw [List.takeWhile_append_dropWhile]
theorem take_less {x : R5} : ∀ {l : List R5}, ∀ y ∈ l.takeWhile (fun y => lessR y x), lessR y x = true := by
  intro l y hy
  induction l with
  | nil => cases hy
  | cons z l ih =>
    rw [List.takeWhile_cons] at hy
    split at hy
    · rcases List.mem_cons.1 hy with rfl | hy
      · assumption
      · exact ih hy
    · cases hy
theorem drop_more {l : List R5} (h : Rise l) {x : R5} (hx : ∀ y ∈ l, y.1 ≠ x.1) : ∀ y ∈ l.dropWhile (fun y => lessR y x), lessR x y = true := by
  intro y hy
  induction l with
  | nil => cases hy
  | cons z l ih =>
    rw [Rise, List.pairwise_cons] at h
    rw [List.dropWhile_cons] at hy
    split at hy
    · exact ih h.2 (fun y hy => hx y (List.mem_cons_of_mem _ hy)) hy
    · rename_i hz
      have hxz : lessR x z = true := by
        cases e : lessR x z
        · exact absurd (less_tri (by simpa using hz) e) (hx z (List.mem_cons_self ..))
        · rfl
      rcases List.mem_cons.1 hy with rfl | hy
      · exact hxz
      · exact less_trans hxz (h.1 _ hy)
theorem Rise.ins {l : List R5} (h : Rise l) {x : R5} (hx : ∀ y ∈ l, y.1 ≠ x.1) : Rise (insR l x) := by
  have ht := take_less (x := x) (l := l)
  have hd := drop_more h hx
  unfold insR
  rw [Rise, List.pairwise_append, List.pairwise_cons]
  refine ⟨h.sublist (List.takeWhile_sublist _), ⟨hd, h.sublist (List.dropWhile_sublist _)⟩, fun a ha b hb => ?_⟩
  rcases List.mem_cons.1 hb with rfl | hb
  · exact ht a ha
  · exact less_trans (ht a ha) (hd b hb)
theorem find_ins {l : List R5} (h : Rise l) {x : R5} (hx : ∀ y ∈ l, y.1 ≠ x.1) (k : Int × Int) : findR (insR l x) k = if x.1 = k then some x else findR l k := by
  have hr := h.ins hx
  split
  · rename_i e
    subst e
    exact find_of hr (mem_ins.2 (.inl rfl))
  · rename_i e
    cases hf : findR l k with
    | some y =>
      obtain ⟨h1, h2⟩ := find_some hf
      rw [← h2]
      exact find_of hr (mem_ins.2 (.inr h1))
    | none =>
      cases hg : findR (insR l x) k with
      | none => rfl
      | some y =>
        obtain ⟨h1, h2⟩ := find_some hg
        rcases mem_ins.1 h1 with rfl | h1
        · exact absurd h2 e
        · exact absurd h2 (find_none hf y h1)

def entR (l : List R5) : List ((Int × Int) × R5) := l.map fun x => (x.1, x)
theorem entR_len (l : List R5) : (entR l).length = l.length := by unfold entR; simp
theorem mem_entR {l : List R5} {k : Int × Int} {v : R5} : (k, v) ∈ entR l ↔ v ∈ l ∧ v.1 = k := by
  unfold entR
  rw [List.mem_map]
  constructor
  · rintro ⟨x, hx, e⟩
    injection e with e1 e2
    subst e2
    exact ⟨hx, e1⟩
  · rintro ⟨h1, h2⟩
    exact ⟨v, h1, by rw [h2]⟩
theorem without_none {l : List R5} {k : Int × Int} (h : ∀ x ∈ l, x.1 ≠ k) : without (entR l) k = entR l := by
  unfold without
  rw [List.filter_eq_self]
  rintro ⟨a, b⟩ hp
  obtain ⟨h1, h2⟩ := mem_entR.1 hp
  simp only []
  rw [← h2]
  simpa using h b h1
/-- A store at a new key. -/
theorem store_ins {l : List R5} {x : R5} (h : ∀ y ∈ l, y.1 ≠ x.1) : ((x.1, x) :: without (entR l) x.1).Perm (entR (insR l x)) := by
  rw [without_none h]
  exact (ins_perm l x).map fun x : R5 => (x.1, x)
/-- The sorted keys of the book are the rows' keys. -/
theorem keys_rows {l : List R5} (h : Rise l) {ss : List (Int × Int)} (hp : ss.Perm ((entR l).map (·.1))) (hs : ss.Pairwise (fun x y => lessB y.1 y.2 x.1 x.2 = false)) : ss = l.map (·.1) := by
  have e : (entR l).map (·.1) = l.map (·.1) := by unfold entR; rw [List.map_map]; rfl
  rw [e] at hp
  refine List.Perm.eq_of_pairwise (le := fun x y : Int × Int => lessB y.1 y.2 x.1 x.2 = false) (fun a b _ _ h1 h2 => ?_) hs ?_ hp
  · unfold lessB at h1 h2; simp at h1 h2; exact Prod.ext (by omega) (by omega)
  · rw [List.pairwise_map]
    exact h.imp fun h => less_asym h
end Pa
end Go.Proofs.YtkmpagijdhhinaaDoor
