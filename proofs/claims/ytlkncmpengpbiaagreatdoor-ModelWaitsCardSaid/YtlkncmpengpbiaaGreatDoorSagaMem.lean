/- Sagas in memory: their cells. -/
import Derived.Test.YtlkncmpengpbiaaGreatDoorSagaSpec
import Derived.Test.YtlkncmpengpbiaaGreatDoorKeysDeed
import Derived.Deep.QuietTactic
import Derived.BigQuiet
import Derived.RegionTactic
namespace Go.Proofs.YtlkncmpengpbiaaGreatDoor
open Go.RowKit Key Sa

abbrev tSaga : TypeId := 90
abbrev tSagaR : TypeId := 128
abbrev sgA (s : Sg) : Array Value := #[.int .i64 s.id, .string ⟨s.ref.toArray⟩, .string ⟨s.sku.toArray⟩, .int .i64 s.qty, .int .i64 s.amt, .int .i64 s.d0, .int .i64 s.d1, .int .i64 s.d2, .int .i64 s.d3, .int .i64 s.d4, .int .i64 s.d5, .bool s.can]
abbrev sgV (s : Sg) : Value := .agg (sgA s)
def encS (s : Sg) : List Value := (sgA s).toList
theorem encS_len (s : Sg) : (encS s).length = 12 := rfl
theorem encS_one (s : Sg) : ∀ u ∈ encS s, u.oneCell' = true := by
  intro u hu; simp [encS] at hu; rcases hu with rfl | rfl | rfl | rfl | rfl | rfl | rfl | rfl | rfl | rfl | rfl | rfl <;> rfl
structure SgBox (w : World) (b : Nat) (s : Sg) : Prop where
  c0 : w.cell? ⟨b, 0, none⟩ = some (.int .i64 s.id)
  c1 : w.cell? ⟨b, 1, none⟩ = some (.string ⟨s.ref.toArray⟩)
  c2 : w.cell? ⟨b, 2, none⟩ = some (.string ⟨s.sku.toArray⟩)
  c3 : w.cell? ⟨b, 3, none⟩ = some (.int .i64 s.qty)
  c4 : w.cell? ⟨b, 4, none⟩ = some (.int .i64 s.amt)
  c5 : w.cell? ⟨b, 5, none⟩ = some (.int .i64 s.d0)
  c6 : w.cell? ⟨b, 6, none⟩ = some (.int .i64 s.d1)
  c7 : w.cell? ⟨b, 7, none⟩ = some (.int .i64 s.d2)
  c8 : w.cell? ⟨b, 8, none⟩ = some (.int .i64 s.d3)
  c9 : w.cell? ⟨b, 9, none⟩ = some (.int .i64 s.d4)
  c10 : w.cell? ⟨b, 10, none⟩ = some (.int .i64 s.d5)
  c11 : w.cell? ⟨b, 11, none⟩ = some (.bool s.can)
theorem sg_box {w : World} {b : Nat} {s : Sg} {T : TypeId} {fr : Nat × Nat} (h : w.heap[b]? = some (.cells (sgA s) T fr)) : SgBox w b s :=
  ⟨cell_at h 0 rfl, cell_at h 1 rfl, cell_at h 2 rfl, cell_at h 3 rfl, cell_at h 4 rfl, cell_at h 5 rfl, cell_at h 6 rfl, cell_at h 7 rfl, cell_at h 8 rfl, cell_at h 9 rfl, cell_at h 10 rfl, cell_at h 11 rfl⟩
theorem sg_deed {w : World} {b : Nat} {s : Sg} {T : TypeId} {fr : Nat × Nat} (h : w.heap[b]? = some (.cells (sgA s) T fr)) {k : Int} (h0 : 0 ≤ k) (h6 : k < 6) : w.cell? ⟨b, 5 + k.toNat, none⟩ = some (.int .i64 (s.deed k)) := by
  have B := sg_box h
  have : k = 0 ∨ k = 1 ∨ k = 2 ∨ k = 3 ∨ k = 4 ∨ k = 5 := by omega
  rcases this with rfl | rfl | rfl | rfl | rfl | rfl
  · exact B.c5
  · exact B.c6
  · exact B.c7
  · exact B.c8
  · exact B.c9
  · exact B.c10

theorem below_drew1' {B : Nat} {a b : World} (h : Below B a b) : Below B a b.drew := ⟨h.os, h.tape, h.output, h.size, h.block⟩
theorem below_drewN' {B : Nat} {a b : World} (h : Below B a b) (n : Nat) : Below B a (b.drewN n) := ⟨h.os, h.tape, h.output, h.size, h.block⟩
end Go.Proofs.YtlkncmpengpbiaaGreatDoor
