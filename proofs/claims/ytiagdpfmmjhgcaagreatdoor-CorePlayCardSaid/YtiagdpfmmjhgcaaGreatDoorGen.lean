/- Small words for memory: rows of the call's own, blocks, worlds. Of no program. -/
import Derived.Test.YtiagdpfmmjhgcaaGreatDoorMem
import Derived.Test.YtiagdpfmmjhgcaaGreatDoorSortK0
import Derived.Test.YtiagdpfmmjhgcaaGreatDoorRowApp
import Derived.BigQuiet
import Derived.Deep.QuietTactic
import Derived.RegionTactic
namespace Go.Proofs.YtiagdpfmmjhgcaaGreatDoor
open Go.RowKit

theorem flip_calls {P : Program} {f : FuncId} {args : Array Value} {w : World} {v : Value} (h : Calls P f args w fun e w' => e = .returned v ∧ w = w') : Calls P f args w fun e w' => e = .returned v ∧ w' = w := h.mono fun _ _ ⟨h1, h2⟩ => ⟨h1, h2.symm⟩
theorem below_drew1 {B : Nat} {a b : World} (h : Below B a b) : Below B a b.drew := ⟨h.os, h.tape, h.output, h.size, h.block⟩
theorem grown_of_below {w w' : World} (h : Below w.heap.size w w') (row : Option Nat) : w.grownBy w' row := ⟨h.os, h.tape, h.output, h.size, fun i hi _ => h.block i hi⟩
theorem row_ne {w : World} {base : Nat} {e : TypeId} {size : Nat} {v : Value} {n : Nat} {xs : List Value} (h : w.ownsRow base e size v n xs) {b : Nat} (hb : b < base) : some b ≠ v.ownBlock := fun e1 => by
  have := (h.lt _ e1.symm).1
  omega
theorem own_weak {w : World} {B B' : Nat} {e : TypeId} {z n : Nat} {v : Value} {xs : List Value} (h : w.ownsRow B e z v n xs) (hb : B' ≤ B) : w.ownsRow B' e z v n xs :=
  ⟨h.1, h.2.imp id fun ⟨g, cap, cur, hv, hB, r⟩ => ⟨g, cap, cur, hv, Nat.le_trans hb hB, r⟩⟩
theorem five_new (w : World) (x0 x1 x2 x3 x4 : Value) (T : TypeId) : ∀ j u, [x0, x1, x2, x3, x4][j]? = some u → (w.alloc (.cells #[x0, x1, x2, x3, x4] T)).cell? ((⟨w.heap.size, 0, none⟩ : Addr).add j) = some u := by
  intro j u hj
  match j, hj with
  | 0, hj => simp at hj; subst hj; simp [Addr.add]
  | 1, hj => simp at hj; subst hj; simp [Addr.add]
  | 2, hj => simp at hj; subst hj; simp [Addr.add]
  | 3, hj => simp at hj; subst hj; simp [Addr.add]
  | 4, hj => simp at hj; subst hj; simp [Addr.add]
theorem five_at (w : World) (g : Nat) (hg : g = w.heap.size) (x0 x1 x2 x3 x4 : Value) (T : TypeId) : ∀ j u, [x0, x1, x2, x3, x4][j]? = some u → (w.alloc (.cells #[x0, x1, x2, x3, x4] T)).cell? ((⟨g, 0, none⟩ : Addr).add j) = some u := by
  subst hg
  exact five_new w x0 x1 x2 x3 x4 T
theorem own_apart {w : World} {B B' : Nat} {e e' : TypeId} {v v' : Value} {n n' : Nat} {xs xs' : List Value} {z z' : Nat} (h : w.ownsRow B e z v n xs) (h' : w.ownsRow B' e' z' v' n' xs') (hne : e ≠ e') : v.ownBlock = none ∨ v.ownBlock ≠ v'.ownBlock := by
  rcases h.2 with ⟨rfl, _⟩ | ⟨g, cap, cur, rfl, _, hg, _⟩
  · exact .inl rfl
  · rcases h'.2 with ⟨rfl, _⟩ | ⟨g', cap', cur', rfl, _, hg', _⟩
    · exact .inr (by simp [Value.ownBlock])
    · refine .inr fun e => ?_
      simp only [Value.ownBlock, Option.some.injEq] at e
      subst e
      rw [hg] at hg'
      injection hg' with hg'
      injection hg' with _ ht
      exact hne ht
theorem two_at (w : World) (g : Nat) (hg : g = w.heap.size) (x0 x1 : Value) (T : TypeId) : ∀ j u, [x0, x1][j]? = some u → (w.alloc (.cells #[x0, x1] T)).cell? ((⟨g, 0, none⟩ : Addr).add j) = some u := by
  subst hg
  intro j u hj
  match j, hj with
  | 0, hj => simp at hj; subst hj; simp [Addr.add]
  | 1, hj => simp at hj; subst hj; simp [Addr.add]
theorem grown_drew {w w' : World} {row : Option Nat} (h : w.grownBy w' row) : w.grownBy w'.drew row := ⟨h.os, h.tape, h.output, h.size, h.block⟩
theorem cell5 {w : World} {b : Nat} {x0 x1 x2 x3 x4 : Value} {T : TypeId} (h : w.heap[b]? = some (.cells #[x0, x1, x2, x3, x4] T (0, 0))) : w.cell? ⟨b, 0, none⟩ = some x0 ∧ w.cell? ⟨b, 1, none⟩ = some x1 ∧ w.cell? ⟨b, 2, none⟩ = some x2 ∧ w.cell? ⟨b, 3, none⟩ = some x3 ∧ w.cell? ⟨b, 4, none⟩ = some x4 :=
  ⟨cell_at h 0 rfl, cell_at h 1 rfl, cell_at h 2 rfl, cell_at h 3 rfl, cell_at h 4 rfl⟩
theorem row_none {w : World} {B k : Nat} {e : TypeId} {v : Value} {xs : List Value} (h : w.ownsRow B e k v 0 xs) : ∃ A cap, v = .slice A 0 cap := by
  rcases h.2 with ⟨rfl, _⟩ | ⟨g, cap, cur, rfl, _⟩
  · exact ⟨_, _, rfl⟩
  · exact ⟨_, _, rfl⟩
theorem grown_drewN {w w' : World} {row : Option Nat} (h : w.grownBy w' row) (n : Nat) : w.grownBy (w'.drewN n) row := ⟨h.os, h.tape, h.output, h.size, h.block⟩
theorem own_far {w : World} {B : Nat} {e : TypeId} {z n : Nat} {v : Value} {xs : List Value} (h : w.ownsRow B e z v n xs) {b : Nat} (hb : w.heap.size ≤ b) : some b ≠ v.ownBlock := fun e => by
  have := (h.lt b e.symm).2
  omega
theorem set5_3 {w : World} {b : Nat} {x0 x1 x2 x3 x4 : Value} {T : TypeId} (h : w.heap[b]? = some (.cells #[x0, x1, x2, x3, x4] T (0, 0))) (q : Value) : (w.setCell ⟨b, 3, none⟩ q).heap[b]? = some (.cells #[x0, x1, x2, q, x4] T (0, 0)) := by
  simp [World.setCell, Array.getElem?_modify, h]
theorem own_ptr {w : World} {B : Nat} {e : TypeId} {z n : Nat} {v : Value} {xs : List Value} (h : w.ownsRow B e z v n xs) : (v = .slice none 0 0 ∧ n = 0) ∨ ∃ g c, v = .slice (some ⟨g, 0, none⟩) n c ∧ B ≤ g ∧ g < w.heap.size ∧ n ≤ c := by
  rcases h.2 with h | ⟨g, cap, cur, rfl, hB, hg, hc, _⟩
  · exact .inl h
  · exact .inr ⟨g, cap, rfl, hB, heap_lt hg, hc⟩
theorem own_slice {w : World} {B : Nat} {e : TypeId} {z n : Nat} {v : Value} {xs : List Value} (h : w.ownsRow B e z v n xs) : ∃ A c, v = .slice A n c ∧ (0 < n → ∃ g, A = some ⟨g, 0, none⟩ ∧ B ≤ g ∧ g < w.heap.size) := by
  rcases own_ptr h with ⟨rfl, rfl⟩ | ⟨g, c, rfl, h1, h2, _⟩
  · exact ⟨none, 0, rfl, fun h => by omega⟩
  · exact ⟨_, c, rfl, fun _ => ⟨g, rfl, h1, h2⟩⟩
theorem own_cellK {α : Type} {enc : α → List Value} {z : Nat} (hk : ∀ x, (enc x).length = z) (h0 : 0 < z) {w : World} {B g c : Nat} {e : TypeId} {l : List α} (h : w.ownsRow B e z (.slice (some ⟨g, 0, none⟩) l.length c) l.length (l.flatMap enc)) {i : Nat} {x : α} (hx : l[i]? = some x) (j : Nat) (hj : j < z) :
    w.cell? ⟨g, i * z + j, none⟩ = (enc x)[j]? := by
  have hi := (List.getElem?_eq_some_iff.1 hx).1
  have : i * z + j < l.length * z := by
    calc i * z + j < i * z + z := by omega
      _ = (i + 1) * z := by rw [Nat.add_mul, Nat.one_mul]
      _ ≤ l.length * z := Nat.mul_le_mul_right _ hi
  rw [h.cellAt _ this, flat_get hk h0, show (i * z + j) / z = i by rw [Nat.mul_comm, Nat.mul_add_div h0, Nat.div_eq_of_lt hj]; omega, show (i * z + j) % z = j by rw [Nat.mul_comm, Nat.mul_add_mod, Nat.mod_eq_of_lt hj], hx]
  rfl
theorem cell4 {w : World} {b : Nat} {x0 x1 x2 x3 : Value} {T : TypeId} (h : w.heap[b]? = some (.cells #[x0, x1, x2, x3] T (0, 0))) : w.cell? ⟨b, 0, none⟩ = some x0 ∧ w.cell? ⟨b, 1, none⟩ = some x1 ∧ w.cell? ⟨b, 2, none⟩ = some x2 ∧ w.cell? ⟨b, 3, none⟩ = some x3 :=
  ⟨cell_at h 0 rfl, cell_at h 1 rfl, cell_at h 2 rfl, cell_at h 3 rfl⟩
theorem src_one {w : World} {b : Nat} {x0 x1 x2 x3 x4 : Value} {T : TypeId} {fr : Nat × Nat} {k c : Nat} (h : w.heap[b]? = some (.cells #[x0, x1, x2, x3, x4] T fr)) (h1 : ∀ u ∈ [x0, x1, x2, x3, x4], u.oneCell' = true) (hk : k = 1) : SrcL w (.slice (some ⟨b, 0, none⟩) k c) 1 5 [x0, x1, x2, x3, x4] := by
  subst hk
  refine ⟨rfl, h1, .inr ⟨_, _, rfl, fun j x hj => ?_⟩⟩
  rw [Addr.add_lit, Nat.zero_add]
  exact cell_at h j (by simpa using hj)
theorem held5 {wz W : World} {q : Nat} {x0 x1 x2 x3 x4 : Value} {T : TypeId} (h : wz.heap[q]? = some (.cells #[x0, x1, x2, x3, x4] T (0, 0))) (hb : Below wz.heap.size wz W) :
    Hid (Below wz.heap.size wz W) ∧ W.cell? ⟨q, 0, none⟩ = some x0 ∧ W.cell? ⟨q, 1, none⟩ = some x1 ∧ W.cell? ⟨q, 2, none⟩ = some x2 ∧ W.cell? ⟨q, 3, none⟩ = some x3 ∧ W.cell? ⟨q, 4, none⟩ = some x4 :=
  ⟨hb, cell5 ((hb.block _ (heap_lt h)).trans h)⟩
end Go.Proofs.YtiagdpfmmjhgcaaGreatDoor
