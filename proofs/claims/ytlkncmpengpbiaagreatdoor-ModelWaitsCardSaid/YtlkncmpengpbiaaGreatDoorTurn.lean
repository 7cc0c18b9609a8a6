/- What turned between two worlds: only these blocks. -/
import Derived.Test.YtlkncmpengpbiaaGreatDoorRowMem
namespace Go.Proofs.YtlkncmpengpbiaaGreatDoor
open Go.RowKit Go.Maps

/-- Whatever lay there lies there, but for the blocks of S. -/
structure Turned (S : Nat → Prop) (w w' : World) : Prop where
  os : w'.os = w.os
  tape : w'.tape = w.tape
  output : w'.output = w.output
  size : w.heap.size ≤ w'.heap.size
  block : ∀ i, i < w.heap.size → ¬ S i → w'.heap[i]? = w.heap[i]?
theorem Turned.refl (S : Nat → Prop) (w : World) : Turned S w w := ⟨rfl, rfl, rfl, Nat.le_refl _, fun _ _ _ => rfl⟩
theorem Turned.trans {S : Nat → Prop} {a b c : World} (h : Turned S a b) (k : Turned S b c) : Turned S a c :=
  ⟨k.os.trans h.os, k.tape.trans h.tape, k.output.trans h.output, Nat.le_trans h.size k.size, fun i hi hs => (k.block i (Nat.lt_of_lt_of_le hi h.size) hs).trans (h.block i hi hs)⟩
theorem Turned.mono {S S' : Nat → Prop} {a b : World} (h : Turned S a b) (hs : ∀ i, S i → S' i) : Turned S' a b := ⟨h.os, h.tape, h.output, h.size, fun i hi h' => h.block i hi (fun x => h' (hs i x))⟩
theorem Turned.of_below {S : Nat → Prop} {a b : World} (h : Below a.heap.size a b) : Turned S a b := ⟨h.os, h.tape, h.output, h.size, fun i hi _ => h.block i hi⟩
theorem Turned.of_grown {S : Nat → Prop} {a b : World} {r : Option Nat} (h : a.grownBy b r) (hr : ∀ j, r = some j → S j) : Turned S a b := ⟨h.os, h.tape, h.output, h.size, fun i hi hs => h.block i hi (fun e => hs (hr i e.symm))⟩
/-- New blocks may turn as they like. -/
theorem Turned.far {S : Nat → Prop} {a b c : World} (h : Turned S a b) (k : Turned (fun i => S i ∨ a.heap.size ≤ i) b c) : Turned S a c :=
  ⟨k.os.trans h.os, k.tape.trans h.tape, k.output.trans h.output, Nat.le_trans h.size k.size, fun i hi hs => (k.block i (Nat.lt_of_lt_of_le hi h.size) (fun x => x.elim hs (fun x => by omega))).trans (h.block i hi hs)⟩
theorem Below.turned {B : Nat} {a b c : World} {S : Nat → Prop} (h : Below B a b) (k : Turned S b c) (hs : ∀ i, S i → B ≤ i) (hB : B ≤ b.heap.size) : Below B a c :=
  ⟨k.os.trans h.os, k.tape.trans h.tape, k.output.trans h.output, Nat.le_trans h.size k.size, fun i hi => (k.block i (by omega) (fun x => by have := hs i x; omega)).trans (h.block i hi)⟩

theorem turned_set (w : World) (b i : Nat) (v : Value) : Turned (fun j => j = b) w (w.setCell ⟨b, i, none⟩ v) := by
  refine ⟨rfl, rfl, rfl, by simp [World.setCell], fun j _ hj => ?_⟩
  simp [World.setCell, Array.getElem?_modify]
  exact fun e => absurd e.symm hj
theorem turned_set5 (w : World) (b : Nat) (p0 p1 p2 p3 p4 : Value) : Turned (fun j => j = b) w (((((w.setCell ⟨b, 0, none⟩ p0).setCell ⟨b, 1, none⟩ p1).setCell ⟨b, 2, none⟩ p2).setCell ⟨b, 3, none⟩ p3).setCell ⟨b, 4, none⟩ p4) :=
  ((((turned_set w b 0 p0).trans (turned_set _ b 1 p1)).trans (turned_set _ b 2 p2)).trans (turned_set _ b 3 p3)).trans (turned_set _ b 4 p4)
theorem cellN {w : World} {b : Nat} {cs : Array Value} {T : TypeId} {fr : Nat × Nat} (h : w.heap[b]? = some (.cells cs T fr)) {u : World} (hb : Below w.heap.size w u) (i : Nat) {x : Value} (hx : cs[i]? = some x) : u.cell? ⟨b, i, none⟩ = some x := cell_at ((hb.block b (heap_lt h)).trans h) i hx
theorem froz3 {w : World} {b : Nat} {cs : Array Value} {T : TypeId} (h : w.heap[b]? = some (.cells cs T (0, 0))) : w.frozen? ⟨b, 0, none⟩ = false ∧ w.frozen? ⟨b, 1, none⟩ = false ∧ w.frozen? ⟨b, 2, none⟩ = false := ⟨frozen_at h _, frozen_at h _, frozen_at h _⟩
theorem froz5 {w : World} {b : Nat} {cs : Array Value} {T : TypeId} (h : w.heap[b]? = some (.cells cs T (0, 0))) : w.frozen? ⟨b, 0, none⟩ = false ∧ w.frozen? ⟨b, 1, none⟩ = false ∧ w.frozen? ⟨b, 2, none⟩ = false ∧ w.frozen? ⟨b, 3, none⟩ = false ∧ w.frozen? ⟨b, 4, none⟩ = false := ⟨frozen_at h _, frozen_at h _, frozen_at h _, frozen_at h _, frozen_at h _⟩
theorem own_turned {w w' : World} {B z n : Nat} {e : TypeId} {v : Value} {xs : List Value} (h : w.ownsRow B e z v n xs) {S : Nat → Prop} (ht : Turned S w w') (hS : ∀ j, v.ownBlock = some j → ¬ S j) : w'.ownsRow B e z v n xs := by
  rcases h.2 with ⟨rfl, rfl⟩ | ⟨g, cap, cur, rfl, hB, hg, hr⟩
  · exact ⟨h.1, .inl ⟨rfl, rfl⟩⟩
  · exact ⟨h.1, .inr ⟨g, cap, cur, rfl, hB, (ht.block g (heap_lt hg) (hS g rfl)).trans hg, hr⟩⟩
abbrev set3w (w : World) (b : Nat) (p0 p1 p2 : Value) : World := ((w.setCell ⟨b, 0, none⟩ p0).setCell ⟨b, 1, none⟩ p1).setCell ⟨b, 2, none⟩ p2
theorem set3c {w : World} {b : Nat} {x0 x1 x2 : Value} {T : TypeId} (h : w.heap[b]? = some (.cells #[x0, x1, x2] T (0, 0))) (p0 p1 p2 : Value) : (set3w w b p0 p1 p2).heap[b]? = some (.cells #[p0, p1, p2] T (0, 0)) := by
  simp [set3w, World.setCell, Array.getElem?_modify, h]
theorem turned_set3 (w : World) (b : Nat) (p0 p1 p2 : Value) : Turned (fun j => j = b) w (set3w w b p0 p1 p2) := ((turned_set w b 0 p0).trans (turned_set _ b 1 p1)).trans (turned_set _ b 2 p2)
theorem Turned.drewN {S : Nat → Prop} {a b : World} (h : Turned S a b) (n : Nat) : Turned S a (b.drewN n) := ⟨h.os, h.tape, h.output, h.size, h.block⟩
theorem Turned.drew {S : Nat → Prop} {a b : World} (h : Turned S a b) : Turned S a b.drew := ⟨h.os, h.tape, h.output, h.size, h.block⟩
theorem below_drewN {B : Nat} {a b : World} (h : Below B a b) (n : Nat) : Below B a (b.drewN n) := ⟨h.os, h.tape, h.output, h.size, h.block⟩
end Go.Proofs.YtlkncmpengpbiaaGreatDoor
