/- Short words for the walks of regions that draw their order. Of no program. -/
import Derived.OrdersHeld
import Derived.Deep.RegionHeld
import Derived.Maps.RangeWalk
import Derived.WalkKit
import Derived.RegionTactic
import Derived.Lib.Hide
namespace Go.Proofs.YtlkncmpengpbiaaGreatDoor
open Go Go.RowKit

section
variable {P : Program} {ops : Array Oper} {Q : Exit → Act → World → Prop} {md : Region.Mode} {S : World → Prop}
/-- An operation that may come up at any time is done first. -/
theorem tk (i : Nat) {d : Tmp} {oi : Oper} {v : Value} {fuel : Nat} {listed : Array Bool} {a : Act} {w : World} (hi : ops[i]? = some oi) (hd : oi.dst = some d) (hS : S w)
    (h : wpAnyH P md ops Q S fuel (listed.setIfInBounds i true) { a with tmps := a.tmps.setIfInBounds d v } w)
    (hy : YieldsIf P ops S oi v a := by exact Or.inl ⟨by rfl, by intro w0 hSw; (try dsimp only at hSw); go_simp; try with_reducible rfl⟩)
    (hs : Region.noSelect ops = true := by kernel_rfl) (hf : Region.free md ops listed i = true := by kernel_rfl) (hr : (Region.ready md ops listed).contains i = true := by kernel_rfl)
    (hQ : ∀ c a w, Q (.panic c) (a.put oi.dst v) w → Q (.panic c) a w := by exact fun _ _ _ h => h) : wpAnyH P md ops Q S (fuel + 1) listed a w :=
  wpAnyH_take hi hs hf hr hQ hy hS (by unfold Act.put; rw [hd]; exact h)
/-- One operation alone may come up. -/
theorem rdy (i : Nat) {o : Oper} {fuel : Nat} {listed : Array Bool} {a : Act} {w : World} (ho : ops[i]? = some o)
    (h : ∀ K : Act → World → Prop, Hid (∀ a' w', S w' → (S w' → wpAnyH P md ops Q S fuel (listed.setIfInBounds i true) a' w') → K a' w') → if Region.wanted o (yielded ops a.tmps) = true then Oper.wp P o a w K Q else K (a.put o.dst undef) w)
    (hr : Region.ready md ops listed = [i] := by kernel_rfl) : wpAnyH P md ops Q S (fuel + 1) listed a w :=
  wpAnyH_ready hr (by simp) (AllReadyH.cons ho h AllReadyH.nil)
end
/-- A cell stands where only new blocks were made. -/
theorem kc {w w' : World} {p : Addr} {v : Value} (hb : Below w.heap.size w w') (h : w.cell? p = some v) : w'.cell? p = some v := (hb.cell (World.block_lt_of_cell? w _ h)).trans h
theorem Hd {p : Prop} (h : p) : Hid p := Lib.hid h
theorem gx1 {α : Type} {xs : List α} {i : Nat} (h : i < xs.toArray.size) : xs.toArray[i] = xs[i]'(by simpa using h) := by simp
theorem gx2 {α : Type} {a : α} {as : List α} {h : 0 < (a :: as).length} : (a :: as)[0] = a := rfl
theorem gx3 {α : Type} {a : α} {as : List α} {i : Nat} {h : i + 1 < (a :: as).length} : (a :: as)[i + 1] = as[i]'(by simpa using h) := rfl
end Go.Proofs.YtlkncmpengpbiaaGreatDoor
