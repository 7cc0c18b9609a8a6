/- Laws of what a party does, as plain lists: asked twice; rows stay; what is left. -/
import Derived.Test.YtkmpagijdhhinaaDoorPartyGood
namespace Go.Proofs.YtkmpagijdhhinaaDoor
open Key Od Pa

namespace Pa
theorem insR_sub (l : List R5) (x : R5) : List.Sublist l (insR l x) := by
  unfold insR
  conv => lhs; rw [← List.takeWhile_append_dropWhile (p := fun y => lessR y x) (l := l)]
  exact List.Sublist.append (List.Sublist.refl _) (List.sublist_cons_self _ _)
/-- A row, once written, stays. -/
theorem ask_sub (kind stock limit : Int) (st : St) (m : Ms) : List.Sublist st.rows (askS kind stock limit st m).rows := by
  unfold askS
  split
  · split
    · exact List.Sublist.refl _
    · unfold nextS
      split
      · unfold undoS
        refine List.Sublist.trans ?_ (insR_sub _ _)
        split
        · exact List.Sublist.refl _
        · exact insR_sub _ _
      · unfold doS
        split <;> exact insR_sub _ _
  · exact List.Sublist.refl _
theorem find_isSome {l : List R5} {k : Int × Int} : (findR l k).isSome = true ↔ ∃ x ∈ l, x.1 = k := by
  constructor
  · intro h
    obtain ⟨x, hx⟩ := Option.isSome_iff_exists.1 h
    exact ⟨x, find_some hx⟩
  · rintro ⟨x, hx, e⟩
    cases h : findR l k with
    | some y => rfl
    | none => exact absurd e (find_none h x hx)
/-- A message that was answered. -/
def Settled (kind : Int) (st : St) (m : Ms) : Prop := m.may = true → m.to = kind → (findR st.rows (m.o, m.d)).isSome = true
theorem settled_same {kind stock limit : Int} {st : St} {m : Ms} (h : Settled kind st m) : askS kind stock limit st m = st := by
  unfold askS
  split
  · rename_i hm
    rw [Bool.and_eq_true, decide_eq_true_eq] at hm
    rw [if_pos (h hm.1 hm.2)]
  · rfl
theorem settled_more {kind stock limit : Int} {st : St} {m : Ms} (h : Settled kind st m) (n : Ms) : Settled kind (askS kind stock limit st n) m := by
  intro hm ht
  obtain ⟨x, hx, e⟩ := find_isSome.1 (h hm ht)
  exact find_isSome.2 ⟨x, (ask_sub kind stock limit st n).subset hx, e⟩
theorem settled_ask {kind stock limit : Int} {st : St} (m : Ms) : Settled kind (askS kind stock limit st m) m := by
  intro hm ht
  unfold askS
  rw [if_pos (by rw [hm, ht]; simp)]
  split
  · assumption
  · unfold nextS
    split
    · exact find_isSome.2 ⟨_, mem_ins.2 (.inl rfl), rfl⟩
    · unfold doS
      split
      · exact find_isSome.2 ⟨_, mem_ins.2 (.inl rfl), rfl⟩
      · exact find_isSome.2 ⟨_, mem_ins.2 (.inl rfl), rfl⟩
theorem ask_twice (kind stock limit : Int) (st : St) (m : Ms) : askS kind stock limit (askS kind stock limit st m) m = askS kind stock limit st m := settled_same (settled_ask m)
theorem ans_twice (kind stock limit : Int) (st : St) (m : Ms) : ansS kind stock limit (askS kind stock limit st m) m = ansS kind stock limit st m := by
  unfold ansS
  rw [ask_twice]

/-- What is left is never below nought, and never above the stock. -/
theorem left_nonneg {kind stock : Int} {st : St} (g : Pa.Good kind stock st) (h0 : 0 ≤ stock) (s : List UInt8) : 0 ≤ (if kind = 1 ∧ mayB 1 1 0 s 1 0 0 = true then stock - used st.gs s else 0) ∧ (if kind = 1 ∧ mayB 1 1 0 s 1 0 0 = true then stock - used st.gs s else 0) ≤ stock := by
  have h1 := g.le s
  have h2 := used_nonneg (fun a s q hx => (g.gs a s q hx).2.2.1) s
  split <;> omega

/-- How far a list is found in another one, greedily. -/
theorem sub_step {α : Type} {x y : α} {xs ys : List α} (h : List.Sublist (x :: xs) (y :: ys)) : (x = y → List.Sublist xs ys) ∧ (x ≠ y → List.Sublist (x :: xs) ys) := by
  constructor
  · rintro rfl
    exact List.cons_sublist_cons.1 h
  · intro hne
    cases h with
    | cons _ h => exact h
    | cons_cons _ h => exact absurd rfl hne
end Pa
end Go.Proofs.YtkmpagijdhhinaaDoor
