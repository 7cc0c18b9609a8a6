/- Words for memory: a slice value that reads as a list, whatever its elements are. -/
import Derived.Test.YtlkncmpengpbiaaGreatDoorRows
import Derived.WalkKit
import Derived.Lib.Hide
import Derived.WalkSpells
import Derived.Deep.Draws
namespace Go.Proofs.YtlkncmpengpbiaaGreatDoor
open Go.RowKit

theorem block_add (a : Addr) (n : Nat) : (a.add n).block = a.block := by unfold Addr.add; split <;> rfl

theorem bneT {a b : Int} (h : ¬ a = b) : (a != b) = true := by rw [bne_iff_ne]; exact h
theorem beqF {a b : Int} (h : ¬ a = b) : (a == b) = false := beq_eq_false_iff_ne.2 h
theorem bneF {a b : Int} (h : a = b) : (a != b) = false := by rw [h]; simp
theorem beqT {a b : Int} (h : a = b) : (a == b) = true := beq_iff_eq.2 h
theorem ret_bool {a b : Bool} (h : a = b) : Ending.returned (.bool a) = Ending.returned (.bool b) := by rw [h]
theorem ret_int {k : IntKind} {a b : Int} (h : a = b) : Ending.returned (.int k a) = Ending.returned (.int k b) := by rw [h]

theorem list_ext {α : Type} {L M : List α} {n : Nat} (hl : L.length = n) (hm : M.length = n) (h : ∀ k, k < n → L[k]? = M[k]?) : L = M := by
  apply List.ext_getElem?
  intro k
  by_cases hk : k < n
  · exact h k hk
  · rw [List.getElem?_eq_none (by omega), List.getElem?_eq_none (by omega)]

/-- The slice value v reads as the list L, each element by R; its cells lie below block B. -/
def Sl {α : Type} (w : World) (B : Nat) (R : Value → α → Prop) (v : Value) (L : List α) : Prop :=
  ∃ A n c, v = .slice A n c ∧ L.length = n ∧ n ≤ c ∧ ∀ k x, L[k]? = some x → ∃ ad u, A = some ad ∧ ad.block < B ∧ w.cell? (ad.add k) = some u ∧ R u x

theorem Sl.mono {α : Type} {w w' : World} {B B' : Nat} {R R' : Value → α → Prop} {v : Value} {L : List α} (h : Sl w B R v L) (hb : Below B w w') (hB : B ≤ B')
    (hR : ∀ u x, x ∈ L → R u x → R' u x) : Sl w' B' R' v L := by
  obtain ⟨A, n, c, rfl, hl, hc, h⟩ := h
  refine ⟨A, n, c, rfl, hl, hc, fun k x hk => ?_⟩
  obtain ⟨ad, u, rfl, hlt, hcell, hr⟩ := h k x hk
  exact ⟨ad, u, rfl, by omega, (hb.cell (by rw [block_add]; exact hlt)).trans hcell, hR u _ (List.mem_of_getElem? hk) hr⟩

theorem Sl.nil {α : Type} (w : World) (B : Nat) (R : Value → α → Prop) : Sl w B R (.slice none 0 0) [] :=
  ⟨none, 0, 0, rfl, rfl, Nat.le_refl _, fun k x h => by simp at h⟩

/-- A string cell that holds these bytes. -/
def IsStr (v : Value) (s : List UInt8) : Prop := v = .string ⟨s.toArray⟩

def Strs (w : World) (B : Nat) (v : Value) (L : List (List UInt8)) : Prop := Sl w B IsStr v L
def Rowz (w : World) (B : Nat) (v : Value) (L : List (List (List UInt8))) : Prop := Sl w B (Strs w B) v L

theorem Strs.below {w w' : World} {B B' : Nat} {v : Value} {L : List (List UInt8)} (h : Strs w B v L) (hb : Below B w w') (hB : B ≤ B') : Strs w' B' v L :=
  Sl.mono h hb hB fun _ _ _ h => h
theorem Rowz.below {w w' : World} {B B' : Nat} {v : Value} {L : List (List (List UInt8))} (h : Rowz w B v L) (hb : Below B w w') (hB : B ≤ B') : Rowz w' B' v L :=
  Sl.mono h hb hB fun _ _ _ h => Strs.below h hb hB

theorem bch {B : Nat} {a b c : World} (h : Below B a b) (k : Below b.heap.size b c) (hB : B ≤ b.heap.size) : Below B a c := h.trans (k.mono hB)
theorem heap_keep {w w' : World} {b : Nat} {o : Obj} (h : w.heap[b]? = some o) (hb : Below w.heap.size w w') : w'.heap[b]? = some o := by
  rw [hb.block b (Array.getElem?_eq_some_iff.1 h).1]; exact h
theorem heap_lt {w : World} {b : Nat} {o : Obj} (h : w.heap[b]? = some o) : b < w.heap.size := (Array.getElem?_eq_some_iff.1 h).1
/-- Three cells of one block, written. -/
theorem set3 {w : World} {b : Nat} {x y z : Value} {T : TypeId} (h : w.heap[b]? = some (.cells #[x, y, z] T (0, 0))) (p q r : Value) :
    (((w.setCell ⟨b, 0, none⟩ p).setCell ⟨b, 1, none⟩ q).setCell ⟨b, 2, none⟩ r).heap[b]? = some (.cells #[p, q, r] T (0, 0)) := by
  simp [World.setCell, Array.getElem?_modify, h]
theorem cell3 {w : World} {b : Nat} {x y z : Value} {T : TypeId} (h : w.heap[b]? = some (.cells #[x, y, z] T (0, 0))) : w.cell? ⟨b, 0, none⟩ = some x ∧ w.cell? ⟨b, 1, none⟩ = some y ∧ w.cell? ⟨b, 2, none⟩ = some z ∧ w.frozen? ⟨b, 0, none⟩ = false ∧ w.frozen? ⟨b, 1, none⟩ = false ∧ w.frozen? ⟨b, 2, none⟩ = false := by
  simp [World.cell?, World.frozen?, h]
theorem below_set3 {B : Nat} {a w : World} (h : Below B a w) {b : Nat} (hb : B ≤ b) (p q r : Value) : Below B a (((w.setCell ⟨b, 0, none⟩ p).setCell ⟨b, 1, none⟩ q).setCell ⟨b, 2, none⟩ r) :=
  ((h.setCell (p := ⟨b, 0, none⟩) hb _).setCell (p := ⟨b, 1, none⟩) hb _).setCell (p := ⟨b, 2, none⟩) hb _
/-- The one cell of a block that has just been made. -/
theorem one_new (w : World) (x : Value) (T : TypeId) : ∀ j u, [x][j]? = some u → (w.alloc (.cells #[x] T)).cell? ((⟨w.heap.size, 0, none⟩ : Addr).add j) = some u := by
  intro j u hj
  match j, hj with
  | 0, hj => simp at hj; subst hj; simp [Addr.add]
theorem heap_new (w : World) (o : Obj) : (w.alloc o).heap[w.heap.size]? = some o := (MapKept.heap_alloc w o).1
theorem cell_at {w : World} {b : Nat} {vs : Array Value} {T : TypeId} {z : Nat × Nat} (h : w.heap[b]? = some (.cells vs T z)) (i : Nat) {x : Value} (hx : vs[i]? = some x) : w.cell? ⟨b, i, none⟩ = some x := by
  simp [World.cell?, h, hx]
/-- The cells of a block of two that has just been made, behind whatever made new blocks only. -/
theorem cells2 {w w' : World} {x y : Value} {T : TypeId} (hb : Below (w.alloc (.cells #[x, y] T)).heap.size (w.alloc (.cells #[x, y] T)) w') : w'.cell? ⟨w.heap.size, 0, none⟩ = some x ∧ w'.cell? ⟨w.heap.size, 1, none⟩ = some y ∧ w.heap.size < w'.heap.size := by
  have h := (hb.block w.heap.size (by simp)).trans (heap_new w _)
  have := hb.size
  exact ⟨cell_at h 0 rfl, cell_at h 1 rfl, by simp at this; omega⟩
theorem frozen_at {w : World} {b : Nat} {vs : Array Value} {T : TypeId} (h : w.heap[b]? = some (.cells vs T (0, 0))) (i : Nat) : w.frozen? ⟨b, i, none⟩ = false := by
  simp [World.frozen?, h]
theorem frozen2 {w w' : World} {x y : Value} {T : TypeId} (hb : Below (w.alloc (.cells #[x, y] T)).heap.size (w.alloc (.cells #[x, y] T)) w') : w'.frozen? ⟨w.heap.size, 0, none⟩ = false ∧ w'.frozen? ⟨w.heap.size, 1, none⟩ = false := by
  have h := (hb.block w.heap.size (by simp)).trans (heap_new w _)
  exact ⟨frozen_at h 0, frozen_at h 1⟩
theorem set2 {w : World} {b : Nat} {x y : Value} {T : TypeId} (h : w.heap[b]? = some (.cells #[x, y] T (0, 0))) (p q : Value) :
    ((w.setCell ⟨b, 0, none⟩ p).setCell ⟨b, 1, none⟩ q).heap[b]? = some (.cells #[p, q] T (0, 0)) := by
  simp [World.setCell, Array.getElem?_modify, h]
theorem cell2 {w : World} {b : Nat} {x y : Value} {T : TypeId} (h : w.heap[b]? = some (.cells #[x, y] T (0, 0))) : w.cell? ⟨b, 0, none⟩ = some x ∧ w.cell? ⟨b, 1, none⟩ = some y ∧ w.frozen? ⟨b, 0, none⟩ = false ∧ w.frozen? ⟨b, 1, none⟩ = false := by
  simp [World.cell?, World.frozen?, h]
theorem block_new {w w' : World} {o : Obj} (hb : Below (w.alloc o).heap.size (w.alloc o) w') : w'.heap[w.heap.size]? = some o := (hb.block w.heap.size (by simp)).trans (heap_new w _)
end Go.Proofs.YtlkncmpengpbiaaGreatDoor
