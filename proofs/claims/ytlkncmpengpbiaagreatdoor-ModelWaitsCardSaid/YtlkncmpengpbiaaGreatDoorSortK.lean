/- A row of the call's own whose elements have k cells: read, sorted. Of no program. -/
import Derived.Shelf.SlSortCmp.NoneTotal
import Derived.Laws.OwnMore
import Derived.Sort.OwnSortedInts
import Derived.Below
import Derived.Test.YtlkncmpengpbiaaGreatDoorSrcOf
namespace Go.Proofs.YtlkncmpengpbiaaGreatDoor
open Go.Sort Go.Shelf

section
variable {α : Type} {enc : α → List Value} {k : Nat}

theorem flatK_toList [Inhabited α] (hk : ∀ x, (enc x).length = k) (h0 : 0 < k) (d : Array α) : (flatK enc k d).toList = d.toList.flatMap enc := by
  apply List.ext_getElem?
  intro t
  by_cases ht : t < d.size * k
  · have hi : t / k < d.size := Nat.div_lt_of_lt_mul (by rw [Nat.mul_comm]; exact ht)
    have hs : t < (flatK enc k d).size := by simpa using ht
    have hm : t % k < (enc d[t / k]).length := by rw [hk]; exact Nat.mod_lt _ h0
    have := get_flatK enc k d t ht
    rw [getElem!_pos _ t hs, getElem!_pos d _ hi, getElem!_pos (enc d[t / k]) _ hm] at this
    rw [flat_get hk h0, Array.getElem?_toList, Array.getElem?_eq_getElem hs, this, Array.getElem?_toList, Array.getElem?_eq_getElem hi]
    simp [List.getElem?_eq_getElem hm]
  · rw [List.getElem?_eq_none (by simp; omega), List.getElem?_eq_none (by rw [flat_len hk]; simp; omega)]

theorem own_holdsK [Inhabited α] (hk : ∀ x, (enc x).length = k) (h0 : 0 < k) {w : World} {B g cap : Nat} {e : TypeId} {L : List α} (h : w.ownsRow B e k (.slice (some ⟨g, 0, none⟩) L.length cap) L.length (L.flatMap enc)) : HoldsK enc k w g 0 L.toArray := by
  intro j hj
  have hj' : j < L.length * k := by simpa using hj
  rw [Nat.zero_add]
  refine ⟨?_, h.frozenAt j⟩
  rw [h.cellAt j hj']
  have h2 := flatK_toList hk h0 L.toArray
  have hs : j < (flatK enc k L.toArray).size := hj
  rw [show L.toArray.toList = L from rfl] at h2
  rw [← h2, Array.getElem?_toList, getElem!_pos _ j hs, Array.getElem?_eq_getElem hs]
  rfl

theorem heap_sortedK [Inhabited α] {w : World} {g n : Nat} {os : Array Obj} {cur : Array Value} {e : TypeId} {fr : Nat × Nat} (d : Array α) (hb : w.heap[g]? = some (.cells cur e fr)) :
    (sortWorldK enc k w g 0 n d os).heap[g]? = some (.cells (putCells id 0 (flatK enc k d) cur) e fr) := by
  have hg : g < w.heap.size := (Array.getElem?_eq_some_iff.1 hb).1
  unfold sortWorldK putRowK
  rw [heap_grow_old _ _ (by simpa using hg)]
  simp [putRow, mapBlock, Sort.ahead, Array.getElem?_modify, hb, onCells]
theorem grownBy_sortedK [Inhabited α] {w : World} {g n : Nat} {os : Array Obj} (d : Array α) : w.grownBy (sortWorldK enc k w g 0 n d os) (some g) := by
  unfold sortWorldK putRowK
  refine ⟨rfl, rfl, rfl, by simp, fun i hi hne => ?_⟩
  rw [heap_grow_old _ _ (by simpa using hi)]
  have : g ≠ i := fun e => hne (by rw [e])
  simp [putRow, mapBlock, Sort.ahead, Array.getElem?_modify, this]

/-- Behind the sort the same slice owns the sorted row. -/
theorem own_sortedK [Inhabited α] (hk : ∀ x, (enc x).length = k) (h0 : 0 < k) {w : World} {B g cap n : Nat} {os : Array Obj} {e : TypeId} {L M : List α} (h : w.ownsRow B e k (.slice (some ⟨g, 0, none⟩) L.length cap) L.length (L.flatMap enc)) (hl : M.length = L.length) :
    (sortWorldK enc k w g 0 n M.toArray os).ownsRow B e k (.slice (some ⟨g, 0, none⟩) L.length cap) L.length (M.flatMap enc) := by
  refine ⟨by rw [flat_len hk, hl], ?_⟩
  rcases h.2 with ⟨h1, _⟩ | ⟨g', cap', cur, hv, hB, hg, h1, h2, h3, _⟩
  · cases h1
  · cases hv
    refine .inr ⟨g, cap, _, rfl, hB, heap_sortedK _ hg, h1, h2, by simp [putCells, h3], ?_⟩
    have hle : L.length * k ≤ cur.size := by rw [h3]; exact Nat.mul_le_mul_right k h1
    rw [← flatK_toList hk h0 M.toArray]
    apply List.ext_getElem?
    intro j
    by_cases hj : j < L.length * k
    · rw [List.getElem?_take_of_lt hj, Array.getElem?_toList, Array.getElem?_toList]
      have hs : j < (flatK enc k M.toArray).size := by simp [hl, hj]
      rw [Array.getElem?_eq_getElem hs]
      have hs' : j < M.length * k := by simpa using hs
      simp [putCells, hs', show j < cur.size by omega]
    · rw [List.getElem?_take_eq_none (by omega), List.getElem?_eq_none (by simp [hl]; omega)]

theorem sorted_list [Inhabited α] {lt : α → α → Bool} {L : List α} {d' : Array α} (hp : PermIn 0 L.toArray.size L.toArray d') (hs : SortedIn lt 0 L.toArray.size d') : d'.toList.Perm L ∧ d'.toList.Pairwise (fun x y => lt y x = false) := by
  obtain ⟨h1, _, h3⟩ := hp
  have hsz : d'.size = L.length := by simpa using h1
  refine ⟨?_, List.pairwise_iff_getElem.2 fun i j hi hj hij => ?_⟩
  · rw [show L.toArray.extract 0 L.toArray.size = L.toArray by simp, show d'.extract 0 L.toArray.size = d' by rw [← h1]; simp] at h3
    exact h3
  · have hi' : i < d'.size := by simpa using hi
    have hj' : j < d'.size := by simpa using hj
    have := hs i j (by omega) hij (by simp; omega)
    rw [getElem!_pos d' i hi', getElem!_pos d' j hj'] at this
    simpa using this
end

end Go.Proofs.YtlkncmpengpbiaaGreatDoor
