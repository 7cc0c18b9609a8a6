/- The document's differences in order: lay. -/
import Derived.Test.YtnfbhocppijbjaaDoorMatchSpec
import Derived.Test.YtnfbhocppijbjaaDoorTurn
import Derived.StillTailTactics
import Derived.BigQuiet
namespace Go.Proofs.YtnfbhocppijbjaaDoor
open Go.RowKit Go.Maps Key Ma

def encD (x : D3) : List Value := [.int .i64 x.1.1, .int .i64 x.1.2, .int .i64 x.2]
theorem encD_len (x : D3) : (encD x).length = 3 := rfl
theorem encD_one (x : D3) : ∀ u ∈ encD x, u.oneCell' = true := by intro u hu; simp [encD] at hu; rcases hu with rfl | rfl | rfl <;> rfl
theorem src_takeK {α : Type} {enc : α → List Value} {z : Nat} {W : World} {B : Nat} {e : TypeId} {l : List α} (hz : ∀ x, (enc x).length = z) (h0 : 0 < z) (h1 : ∀ x, ∀ u ∈ enc x, u.oneCell' = true) {g c : Nat} (h : W.ownsRow B e z (.slice (some ⟨g, 0, none⟩) l.length c) l.length (l.flatMap enc)) {k : Nat} (hk : k ≤ l.length) :
    SrcL W (.slice (some ⟨g, 0, none⟩) k c) k z ((l.take k).flatMap enc) := by
  refine ⟨by rw [flat_len hz, List.length_take]; congr 1; omega, fun u hu => ?_, .inr ⟨_, _, rfl, fun j x hj => ?_⟩⟩
  · obtain ⟨x, _, hx⟩ := List.mem_flatMap.1 hu
    exact h1 x u hx
  · have hjl := (List.getElem?_eq_some_iff.1 hj).1
    rw [flat_len hz, List.length_take] at hjl
    have hlt : j < k * z := by rw [show min k l.length = k by omega] at hjl; exact hjl
    have hjk : j / z < k := Nat.div_lt_of_lt_mul (by rw [Nat.mul_comm]; exact hlt)
    have hlt2 : j < l.length * z := Nat.lt_of_lt_of_le hlt (Nat.mul_le_mul_right _ hk)
    rw [Addr.add_lit, Nat.zero_add, h.cellAt _ hlt2, flat_get hz h0]
    rw [flat_get hz h0, List.getElem?_take, if_pos hjk] at hj
    exact hj
theorem take_drop_less {x : D3} : ∀ {l : List D3} (k : Nat), (∀ y ∈ l.take k, lessD y x = true) → (∀ y, l[k]? = some y → lessD y x = false) → layD l x = l.take k ++ x :: l.drop k
  | [], k, _, _ => by simp [layD]
  | y :: l, 0, _, h => by
    have := h y rfl
    simp [layD, this]
  | y :: l, k + 1, h1, h2 => by
    have hy := h1 y (by simp)
    have := take_drop_less (x := x) (l := l) k (fun z hz => h1 z (by simp [hz])) (fun z hz => h2 z (by simpa using hz))
    unfold layD at this ⊢
    simp only [List.takeWhile_cons, List.dropWhile_cons, hy, if_true, List.cons_append, this, List.take_succ_cons, List.drop_succ_cons]
theorem held3 {wz W : World} {q : Nat} {x0 x1 x2 : Value} {T : TypeId} (h : wz.heap[q]? = some (.cells #[x0, x1, x2] T (0, 0))) (hb : Below wz.heap.size wz W) :
    Hid (Below wz.heap.size wz W) ∧ W.cell? ⟨q, 0, none⟩ = some x0 ∧ W.cell? ⟨q, 1, none⟩ = some x1 ∧ W.cell? ⟨q, 2, none⟩ = some x2 :=
  ⟨hb, cell3c ((hb.block _ (heap_lt h)).trans h)⟩

end Go.Proofs.YtnfbhocppijbjaaDoor
