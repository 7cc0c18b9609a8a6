/- What an append reads: a row of the call's own, what is left of it behind an element, a new block. Of no program. -/
import Derived.Test.YtiagdpfmmjhgcaaGreatDoorGen
import Derived.Test.YtiagdpfmmjhgcaaGreatDoorRowApp
namespace Go.Proofs.YtiagdpfmmjhgcaaGreatDoor
open Go.RowKit

section
variable {α : Type} {enc : α → List Value} {z : Nat} {W : World} {B : Nat} {e : TypeId} {l : List α}
theorem src_dropK (hz : ∀ x, (enc x).length = z) (h0 : 0 < z) (h1 : ∀ x, ∀ u ∈ enc x, u.oneCell' = true) {g c c' : Nat} (h : W.ownsRow B e z (.slice (some ⟨g, 0, none⟩) l.length c) l.length (l.flatMap enc)) {k : Nat} (hk : k ≤ l.length) :
    SrcL W (.slice (some ⟨g, k * z, none⟩) (l.length - k) c') (l.length - k) z ((l.drop k).flatMap enc) := by
  refine ⟨by rw [flat_len hz, List.length_drop], fun u hu => ?_, .inr ⟨_, _, rfl, fun j x hj => ?_⟩⟩
  · obtain ⟨x, _, hx⟩ := List.mem_flatMap.1 hu
    exact h1 x u hx
  · have hjl := (List.getElem?_eq_some_iff.1 hj).1
    rw [flat_len hz, List.length_drop] at hjl
    have hlt : k * z + j < l.length * z := by
      have : (l.length - k) * z + k * z = l.length * z := by rw [← Nat.add_mul]; congr 1; omega
      omega
    rw [Addr.add_lit, h.cellAt _ hlt, flat_get hz h0, show (k * z + j) / z = k + j / z by rw [Nat.mul_comm, Nat.mul_add_div h0], show (k * z + j) % z = j % z by rw [Nat.mul_comm, Nat.mul_add_mod]]
    rw [flat_get hz h0, List.getElem?_drop] at hj
    exact hj
theorem src_dropIf (hz : ∀ x, (enc x).length = z) (h0 : 0 < z) (h1 : ∀ x, ∀ u ∈ enc x, u.oneCell' = true) {g c : Nat} (h : W.ownsRow B e z (.slice (some ⟨g, 0, none⟩) l.length c) l.length (l.flatMap enc)) {k : Nat} (hk : k ≤ l.length) (hc : l.length ≤ c) :
    SrcL W (.slice (if c = k then some ⟨g, 0, none⟩ else some ⟨g, k * z, none⟩) (l.length - k) (c - k)) (l.length - k) z ((l.drop k).flatMap enc) := by
  split
  · obtain rfl : k = l.length := by omega
    exact ⟨by simp, by simp, .inr ⟨_, _, rfl, fun j x hj => by simp at hj⟩⟩
  · exact src_dropK hz h0 h1 h hk
theorem src_own (hz : ∀ x, (enc x).length = z) (h0 : 0 < z) (h1 : ∀ x, ∀ u ∈ enc x, u.oneCell' = true) {A : Option Addr} {c : Nat} (h : W.ownsRow B e z (.slice A l.length c) l.length (l.flatMap enc)) : SrcL W (.slice A l.length c) l.length z (l.flatMap enc) := by
  rcases own_ptr h with ⟨e1, e2⟩ | ⟨g, c', e1, _, _, _⟩
  · obtain rfl := List.eq_nil_of_length_eq_zero e2
    rw [e1]
    exact ⟨by simp, by simp, .inl ⟨rfl, rfl⟩⟩
  · injection e1 with e1 _ _
    subst e1
    have := src_dropK (c' := c) hz h0 h1 h (k := 0) (Nat.zero_le _)
    rw [Nat.zero_mul, Nat.sub_zero, List.drop_zero] at this
    exact this
end
theorem src_blk {w : World} {b : Nat} {xs : List Value} {T : TypeId} {fr : Nat × Nat} {c : Nat} (h : w.heap[b]? = some (.cells xs.toArray T fr)) (h1 : ∀ u ∈ xs, u.oneCell' = true) : SrcL w (.slice (some ⟨b, 0, none⟩) 1 c) 1 xs.length xs := by
  refine ⟨by simp, h1, .inr ⟨_, _, rfl, fun j x hj => ?_⟩⟩
  rw [Addr.add_lit, Nat.zero_add]
  exact cell_at h j (by simpa using hj)
theorem cap_of {w : World} {B : Nat} {e : TypeId} {z n g c : Nat} {xs : List Value} (h : w.ownsRow B e z (.slice (some ⟨g, 0, none⟩) n c) n xs) : n ≤ c := by
  rcases h.2 with ⟨h, _⟩ | ⟨g', cap, cur, hv, _, _, hc, _⟩
  · cases h
  · injection hv with _ _ e3
    subst e3
    exact hc
end Go.Proofs.YtiagdpfmmjhgcaaGreatDoor
