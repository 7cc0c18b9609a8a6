/- Slices of sagas, whoever they belong to; what a kind is, of what a row tells. -/
import Derived.Test.YtnfbhocppijbjaaDoorSagaKnown
import Derived.Test.YtnfbhocppijbjaaDoorMatchLay
import Derived.Test.YtnfbhocppijbjaaDoorIntakeRow
namespace Go.Proofs.YtnfbhocppijbjaaDoor
open Go.RowKit Go.Maps Key Rw Sa Ma

/-- The slice v reads as these sagas. -/
def Sgs (w : World) (v : Value) (l : List Sg) : Prop := SlK w w.heap.size 12 (fun cs x => cs = encS x) v l ∧ NilOk v
theorem Sgs.keep {w w' : World} {v : Value} {l : List Sg} (h : Sgs w v l) (hb : Below w.heap.size w w') : Sgs w' v l := ⟨SlK.mono h.1 hb hb.size (fun _ _ _ h => h), h.2⟩
theorem Sgs.nil (w : World) : Sgs w (.slice none 0 0) [] := ⟨SlK.nil _ _ _ _, fun n c e => by injection e with _ _ e; exact e.symm⟩
theorem Sgs.shape {w : World} {v : Value} {l : List Sg} (h : Sgs w v l) : ∃ A c, v = .slice A l.length c ∧ l.length ≤ c ∧ c ≤ maxLen := SlK.shape h.1
theorem sgs_own {w : World} {B : Nat} {e : TypeId} {v : Value} {l : List Sg} (h : w.ownsRow B e 12 v l.length (l.flatMap encS)) : Sgs w v l := by
  rcases h.2 with ⟨rfl, h0⟩ | ⟨g, cap, cur, rfl, hB, hg, hc, hm, _⟩
  · rw [List.length_eq_zero_iff.1 h0]; exact Sgs.nil w
  · refine ⟨⟨_, _, _, rfl, rfl, hc, hm, fun i x hi => ⟨g, 0, encS x, rfl, heap_lt hg, rfl, fun j u hj => ?_, rfl⟩⟩, fun n c e => by injection e with e; cases e⟩
    have hj5 : j < 12 := by have := (List.getElem?_eq_some_iff.1 hj).1; simpa [encS_len] using this
    have := own_cellK encS_len (by omega) h hi j hj5
    rw [hj] at this
    rw [Nat.zero_add]
    exact this
/-- The cells of the k-th. -/
theorem Sgs.cells {w W : World} {v : Value} {l : List Sg} (h : Sgs w v l) (hb : Below w.heap.size w W) {k : Nat} {s : Sg} (hx : l[k]? = some s) : ∃ g off n c, v = .slice (some ⟨g, off, none⟩) n c ∧
    W.cell? ⟨g, off + k * 12, none⟩ = some (.int .i64 s.id) ∧ W.cell? ⟨g, off + k * 12 + 1, none⟩ = some (.string ⟨s.ref.toArray⟩) ∧ W.cell? ⟨g, off + k * 12 + 2, none⟩ = some (.string ⟨s.sku.toArray⟩) ∧ W.cell? ⟨g, off + k * 12 + 3, none⟩ = some (.int .i64 s.qty) ∧ W.cell? ⟨g, off + k * 12 + 4, none⟩ = some (.int .i64 s.amt) ∧
    W.cell? ⟨g, off + k * 12 + 5, none⟩ = some (.int .i64 s.d0) ∧ W.cell? ⟨g, off + k * 12 + 6, none⟩ = some (.int .i64 s.d1) ∧ W.cell? ⟨g, off + k * 12 + 7, none⟩ = some (.int .i64 s.d2) ∧ W.cell? ⟨g, off + k * 12 + 8, none⟩ = some (.int .i64 s.d3) ∧ W.cell? ⟨g, off + k * 12 + 9, none⟩ = some (.int .i64 s.d4) ∧ W.cell? ⟨g, off + k * 12 + 10, none⟩ = some (.int .i64 s.d5) ∧ W.cell? ⟨g, off + k * 12 + 11, none⟩ = some (.bool s.can) := by
  obtain ⟨A, c, rfl, _⟩ := h.shape
  obtain ⟨g, off, cs, rfl, hgl, hcl, hcell, hcs⟩ := h.1.at hx
  subst hcs
  have hk := fun j u hj => (hb.cell (p := ⟨g, off + k * 12 + j, none⟩) hgl).trans (hcell j u hj)
  exact ⟨g, off, _, _, rfl, hk 0 _ rfl, hk 1 _ rfl, hk 2 _ rfl, hk 3 _ rfl, hk 4 _ rfl, hk 5 _ rfl, hk 6 _ rfl, hk 7 _ rfl, hk 8 _ rfl, hk 9 _ rfl, hk 10 _ rfl, hk 11 _ rfl⟩
theorem kind_row (I : In.Inn) (s : Sg) (d : Nat) : kindI s d (rowD (In.rowOf I (s.id, (d : Int)))).2.1 (rowD (In.rowOf I (s.id, (d : Int)))).2.2.1 (rowD (In.rowOf I (s.id, (d : Int)))).2.2.2 (In.rowOf I (s.id, (d : Int))).isSome = kindOf I s d := by
  unfold kindOf rowD
  cases In.rowOf I (s.id, (d : Int)) <;> rfl
theorem first_succ {l : List Sg} {k : Nat} {t : Sg} (h : l[k]? = some t) (i : Int) : firstB l (k + 1) i = (firstB l k i && decide (t.id ≠ i)) := by
  unfold firstB
  rw [List.take_add_one, h, List.all_append]
  simp
def knownTo (l : List Sg) (k : Nat) (i : Int) : Bool := (l.take k).any fun s => decide (s.id = i)
theorem known_succ {l : List Sg} {k : Nat} {t : Sg} (h : l[k]? = some t) (i : Int) : knownTo l (k + 1) i = (knownTo l k i || decide (t.id = i)) := by
  unfold knownTo
  rw [List.take_add_one, h, List.any_append]
  simp
theorem known_all (l : List Sg) (i : Int) : knownTo l l.length i = knownB l i := by unfold knownTo knownB; rw [List.take_length]
theorem rowsD_snoc {l : List Sg} {rs : List R5} {j : Nat} {r : R5} (h : rs[j]? = some r) (p : List R5) : rowsD l (p ++ rs.take (j + 1)) = rowsD l (p ++ rs.take j) ++ Ma.rowD l r := by
  unfold rowsD
  rw [List.take_add_one, h, ← List.append_assoc, List.flatMap_append]
  simp
end Go.Proofs.YtnfbhocppijbjaaDoor
