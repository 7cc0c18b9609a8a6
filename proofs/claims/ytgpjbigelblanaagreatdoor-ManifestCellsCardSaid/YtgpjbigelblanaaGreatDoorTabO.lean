/- A table of fields in memory, made row by row out of literals. -/
import Derived.Test.YtgpjbigelblanaaGreatDoorCsvOwn
import Derived.Test.YtgpjbigelblanaaGreatDoorTurn
namespace Go.Proofs.YtgpjbigelblanaaGreatDoor
open Go.RowKit

abbrev Lin : Type := List (List UInt8)
/-- A row that was written as a literal. -/
def LitL (w : World) (u : Value) (r : Lin) : Prop := ∃ g, u = .slice (some ⟨g, 0, none⟩) r.length r.length ∧ w.heap[g]? = some (.cells (r.map strV).toArray tFld (0, 0))
theorem LitL.below {w w' : World} {u : Value} {r : Lin} (h : LitL w u r) (hb : Below w.heap.size w w') : LitL w' u r := by
  obtain ⟨g, e, hg⟩ := h
  exact ⟨g, e, heap_keep hg hb⟩
theorem LitL.strs {w : World} {u : Value} {r : Lin} (h : LitL w u r) : Strs w w.heap.size u r := by
  obtain ⟨g, e, hg⟩ := h
  refine ⟨_, _, _, e, rfl, Nat.le_refl _, fun k f hf => ⟨_, strV f, rfl, heap_lt hg, ?_, rfl⟩⟩
  rw [Addr.add_lit, Nat.zero_add]
  exact cell_at hg k (by simp [hf])
theorem LitL.one {w : World} {u : Value} {r : Lin} (h : LitL w u r) : u.oneCell' = true := by
  obtain ⟨g, rfl, _⟩ := h; rfl
theorem own_apartL {w : World} {B : Nat} {e : TypeId} {z n : Nat} {v : Value} {xs : List Value} (h : w.ownsRow B e z v n xs) {r : Nat} {cs : Array Value} {T : TypeId} {fr : Nat × Nat} (hr : w.heap[r]? = some (.cells cs T fr)) (hT : T ≠ e) : v.ownBlock ≠ some r := by
  intro e1
  rcases h.2 with ⟨rfl, _⟩ | ⟨g, cap, cur, rfl, _, hg, _⟩
  · cases e1
  · injection e1 with e1
    have e1 : g = r := e1
    subst e1
    rw [hr] at hg
    injection hg with hg
    injection hg with _ hg
    exact hT hg
theorem heap_turnT {S : Nat → Prop} {a b : World} {i : Nat} {o : Obj} (h : a.heap[i]? = some o) (ht : Turned S a b) (hi : ¬ S i) : b.heap[i]? = some o := (ht.block i (heap_lt h) hi).trans h
/-- A table of the call's own, its rows literals. -/
structure TabO (B : Nat) (w : World) (v : Value) (L : List Lin) (vs : List Value) : Prop where
  own : w.ownsRow B tLine 1 v L.length vs
  each : ∀ (k : Nat) (u : Value) (r : Lin), vs[k]? = some u → L[k]? = some r → LitL w u r
theorem TabO.below {B : Nat} {w w' : World} {v : Value} {L : List Lin} {vs : List Value} (h : TabO B w v L vs) (hb : Below w.heap.size w w') : TabO B w' v L vs :=
  ⟨own_keep h.own hb, fun k u r hu hr => (h.each k u r hu hr).below hb⟩
theorem TabO.len {B : Nat} {w : World} {v : Value} {L : List Lin} {vs : List Value} (h : TabO B w v L vs) : vs.length = L.length := by have := h.own.1; omega
theorem TabO.push {B : Nat} {w w' : World} {v v' u : Value} {L : List Lin} {vs : List Value} {r : Lin} (h : TabO B w v L vs) (hu : LitL w u r) (ho : w'.ownsRow B tLine 1 v' (L.length + 1) (vs ++ [u])) (hg : w.grownBy w' v.ownBlock) : TabO B w' v' (L ++ [r]) (vs ++ [u]) := by
  have keep : ∀ {x : Value} {s : Lin}, LitL w x s → LitL w' x s := fun {x s} hx => by
    obtain ⟨g, e, hgx⟩ := hx
    exact ⟨g, e, (hg.block g (heap_lt hgx) (fun e => own_apartL h.own hgx (by decide) e.symm)).trans hgx⟩
  refine ⟨by simpa using ho, fun k x s hx hs => ?_⟩
  by_cases hk : k < L.length
  · rw [List.getElem?_append_left (by rw [h.len]; exact hk)] at hx
    rw [List.getElem?_append_left hk] at hs
    exact keep (h.each k x s hx hs)
  · rw [List.getElem?_append_right (by rw [h.len]; omega)] at hx
    rw [List.getElem?_append_right (by omega)] at hs
    rw [h.len] at hx
    have h0 : k - L.length = 0 := by
      have := (List.getElem?_eq_some_iff.1 hs).1
      simpa using this
    rw [h0] at hx hs
    simp only [List.getElem?_cons_zero, Option.some.injEq] at hx hs
    subst hx; subst hs
    exact keep hu
theorem TabO.rowz {B : Nat} {w : World} {v : Value} {L : List Lin} {vs : List Value} (h : TabO B w v L vs) : Rowz w w.heap.size v L := by
  rcases h.own.2 with ⟨rfl, h0⟩ | ⟨g, cap, cur, rfl, _, hg, hc, _, hs, hx⟩
  · rw [List.length_eq_zero_iff.1 h0]; exact Sl.nil _ _ _
  · refine ⟨_, _, _, rfl, rfl, hc, fun k r hr => ?_⟩
    have hk := (List.getElem?_eq_some_iff.1 hr).1
    obtain ⟨u, hu⟩ : ∃ u, vs[k]? = some u := ⟨_, List.getElem?_eq_getElem (by rw [h.len]; exact hk)⟩
    refine ⟨_, u, rfl, heap_lt hg, ?_, (h.each k u r hu hr).strs⟩
    rw [Addr.add_lit, Nat.zero_add]
    refine cell_at hg k ?_
    have : (cur.toList.take (L.length * 1))[k]? = some u := by rw [hx]; exact hu
    rw [List.getElem?_take, if_pos (by omega)] at this
    simpa using this
/-- A table of one row, as a literal. -/
theorem TabO.one {B : Nat} {w : World} {r : Lin} {g : Nat} {u : Value} (hu : LitL w u r) (hg : w.heap[g]? = some (.cells #[u] tLine (0, 0))) (hB : B ≤ g) : TabO B w (.slice (some ⟨g, 0, none⟩) 1 1) [r] [u] := by
  refine ⟨⟨by simp, .inr ⟨g, 1, #[u], rfl, hB, hg, Nat.le_refl _, by unfold maxLen; omega, rfl, rfl⟩⟩, fun k x s hx hs => ?_⟩
  match k, hx, hs with
  | 0, hx, hs => simp only [List.getElem?_cons_zero, Option.some.injEq] at hx hs; subst hx; subst hs; exact hu
/-- The literal that has just been made, and a table's row of it. -/
theorem lit_new (w : World) (r : Lin) {xs : Array Value} (hx : xs = (r.map strV).toArray) : LitL (w.alloc (.cells xs tFld)) (.slice (some ⟨w.heap.size, 0, none⟩) r.length r.length) r := ⟨_, rfl, by rw [hx]; exact heap_new _ _⟩
end Go.Proofs.YtgpjbigelblanaaGreatDoor
