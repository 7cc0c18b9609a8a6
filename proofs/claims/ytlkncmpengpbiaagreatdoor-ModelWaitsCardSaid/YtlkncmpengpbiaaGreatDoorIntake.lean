/- Boxes of many cells: what they hold, and what is left where all of it is stored. -/
import Derived.Test.YtlkncmpengpbiaaGreatDoorTurn
import Derived.Test.YtlkncmpengpbiaaGreatDoorMatchSpec
namespace Go.Proofs.YtlkncmpengpbiaaGreatDoor
open Go.RowKit

theorem cell9 {w : World} {b : Nat} {x0 x1 x2 x3 x4 x5 x6 x7 x8 : Value} {T : TypeId} (h : w.heap[b]? = some (.cells #[x0, x1, x2, x3, x4, x5, x6, x7, x8] T (0, 0))) : w.cell? ⟨b, 0, none⟩ = some x0 ∧ w.cell? ⟨b, 1, none⟩ = some x1 ∧ w.cell? ⟨b, 2, none⟩ = some x2 ∧ w.cell? ⟨b, 3, none⟩ = some x3 ∧ w.cell? ⟨b, 4, none⟩ = some x4 ∧ w.cell? ⟨b, 5, none⟩ = some x5 ∧ w.cell? ⟨b, 6, none⟩ = some x6 ∧ w.cell? ⟨b, 7, none⟩ = some x7 ∧ w.cell? ⟨b, 8, none⟩ = some x8 :=
  ⟨cell_at h 0 rfl, cell_at h 1 rfl, cell_at h 2 rfl, cell_at h 3 rfl, cell_at h 4 rfl, cell_at h 5 rfl, cell_at h 6 rfl, cell_at h 7 rfl, cell_at h 8 rfl⟩
theorem froz9 {w : World} {b : Nat} {cs : Array Value} {T : TypeId} (h : w.heap[b]? = some (.cells cs T (0, 0))) : w.frozen? ⟨b, 0, none⟩ = false ∧ w.frozen? ⟨b, 1, none⟩ = false ∧ w.frozen? ⟨b, 2, none⟩ = false ∧ w.frozen? ⟨b, 3, none⟩ = false ∧ w.frozen? ⟨b, 4, none⟩ = false ∧ w.frozen? ⟨b, 5, none⟩ = false ∧ w.frozen? ⟨b, 6, none⟩ = false ∧ w.frozen? ⟨b, 7, none⟩ = false ∧ w.frozen? ⟨b, 8, none⟩ = false :=
  ⟨frozen_at h _, frozen_at h _, frozen_at h _, frozen_at h _, frozen_at h _, frozen_at h _, frozen_at h _, frozen_at h _, frozen_at h _⟩
abbrev set9w (w : World) (b : Nat) (p0 p1 p2 p3 p4 p5 p6 p7 p8 : Value) : World := ((((((((w.setCell ⟨b, 0, none⟩ p0).setCell ⟨b, 1, none⟩ p1).setCell ⟨b, 2, none⟩ p2).setCell ⟨b, 3, none⟩ p3).setCell ⟨b, 4, none⟩ p4).setCell ⟨b, 5, none⟩ p5).setCell ⟨b, 6, none⟩ p6).setCell ⟨b, 7, none⟩ p7).setCell ⟨b, 8, none⟩ p8
theorem set9 {w : World} {b : Nat} {x0 x1 x2 x3 x4 x5 x6 x7 x8 : Value} {T : TypeId} (h : w.heap[b]? = some (.cells #[x0, x1, x2, x3, x4, x5, x6, x7, x8] T (0, 0))) (p0 p1 p2 p3 p4 p5 p6 p7 p8 : Value) : (set9w w b p0 p1 p2 p3 p4 p5 p6 p7 p8).heap[b]? = some (.cells #[p0, p1, p2, p3, p4, p5, p6, p7, p8] T (0, 0)) := by
  simp [set9w, World.setCell, Array.getElem?_modify, h]
theorem turned_set9 (w : World) (b : Nat) (p0 p1 p2 p3 p4 p5 p6 p7 p8 : Value) : Turned (fun j => j = b) w (set9w w b p0 p1 p2 p3 p4 p5 p6 p7 p8) := (((((((((turned_set w b 0 _).trans (turned_set _ b 1 _)).trans (turned_set _ b 2 _)).trans (turned_set _ b 3 _)).trans (turned_set _ b 4 _)).trans (turned_set _ b 5 _)).trans (turned_set _ b 6 _)).trans (turned_set _ b 7 _)).trans (turned_set _ b 8 _))
theorem cell10 {w : World} {b : Nat} {x0 x1 x2 x3 x4 x5 x6 x7 x8 x9 : Value} {T : TypeId} (h : w.heap[b]? = some (.cells #[x0, x1, x2, x3, x4, x5, x6, x7, x8, x9] T (0, 0))) : w.cell? ⟨b, 0, none⟩ = some x0 ∧ w.cell? ⟨b, 1, none⟩ = some x1 ∧ w.cell? ⟨b, 2, none⟩ = some x2 ∧ w.cell? ⟨b, 3, none⟩ = some x3 ∧ w.cell? ⟨b, 4, none⟩ = some x4 ∧ w.cell? ⟨b, 5, none⟩ = some x5 ∧ w.cell? ⟨b, 6, none⟩ = some x6 ∧ w.cell? ⟨b, 7, none⟩ = some x7 ∧ w.cell? ⟨b, 8, none⟩ = some x8 ∧ w.cell? ⟨b, 9, none⟩ = some x9 :=
  ⟨cell_at h 0 rfl, cell_at h 1 rfl, cell_at h 2 rfl, cell_at h 3 rfl, cell_at h 4 rfl, cell_at h 5 rfl, cell_at h 6 rfl, cell_at h 7 rfl, cell_at h 8 rfl, cell_at h 9 rfl⟩
theorem froz10 {w : World} {b : Nat} {cs : Array Value} {T : TypeId} (h : w.heap[b]? = some (.cells cs T (0, 0))) : w.frozen? ⟨b, 0, none⟩ = false ∧ w.frozen? ⟨b, 1, none⟩ = false ∧ w.frozen? ⟨b, 2, none⟩ = false ∧ w.frozen? ⟨b, 3, none⟩ = false ∧ w.frozen? ⟨b, 4, none⟩ = false ∧ w.frozen? ⟨b, 5, none⟩ = false ∧ w.frozen? ⟨b, 6, none⟩ = false ∧ w.frozen? ⟨b, 7, none⟩ = false ∧ w.frozen? ⟨b, 8, none⟩ = false ∧ w.frozen? ⟨b, 9, none⟩ = false :=
  ⟨frozen_at h _, frozen_at h _, frozen_at h _, frozen_at h _, frozen_at h _, frozen_at h _, frozen_at h _, frozen_at h _, frozen_at h _, frozen_at h _⟩
abbrev set10w (w : World) (b : Nat) (p0 p1 p2 p3 p4 p5 p6 p7 p8 p9 : Value) : World := (((((((((w.setCell ⟨b, 0, none⟩ p0).setCell ⟨b, 1, none⟩ p1).setCell ⟨b, 2, none⟩ p2).setCell ⟨b, 3, none⟩ p3).setCell ⟨b, 4, none⟩ p4).setCell ⟨b, 5, none⟩ p5).setCell ⟨b, 6, none⟩ p6).setCell ⟨b, 7, none⟩ p7).setCell ⟨b, 8, none⟩ p8).setCell ⟨b, 9, none⟩ p9
theorem set10 {w : World} {b : Nat} {x0 x1 x2 x3 x4 x5 x6 x7 x8 x9 : Value} {T : TypeId} (h : w.heap[b]? = some (.cells #[x0, x1, x2, x3, x4, x5, x6, x7, x8, x9] T (0, 0))) (p0 p1 p2 p3 p4 p5 p6 p7 p8 p9 : Value) : (set10w w b p0 p1 p2 p3 p4 p5 p6 p7 p8 p9).heap[b]? = some (.cells #[p0, p1, p2, p3, p4, p5, p6, p7, p8, p9] T (0, 0)) := by
  simp [set10w, World.setCell, Array.getElem?_modify, h]
theorem turned_set10 (w : World) (b : Nat) (p0 p1 p2 p3 p4 p5 p6 p7 p8 p9 : Value) : Turned (fun j => j = b) w (set10w w b p0 p1 p2 p3 p4 p5 p6 p7 p8 p9) := ((((((((((turned_set w b 0 _).trans (turned_set _ b 1 _)).trans (turned_set _ b 2 _)).trans (turned_set _ b 3 _)).trans (turned_set _ b 4 _)).trans (turned_set _ b 5 _)).trans (turned_set _ b 6 _)).trans (turned_set _ b 7 _)).trans (turned_set _ b 8 _)).trans (turned_set _ b 9 _))
theorem cell11 {w : World} {b : Nat} {x0 x1 x2 x3 x4 x5 x6 x7 x8 x9 x10 : Value} {T : TypeId} (h : w.heap[b]? = some (.cells #[x0, x1, x2, x3, x4, x5, x6, x7, x8, x9, x10] T (0, 0))) : w.cell? ⟨b, 0, none⟩ = some x0 ∧ w.cell? ⟨b, 1, none⟩ = some x1 ∧ w.cell? ⟨b, 2, none⟩ = some x2 ∧ w.cell? ⟨b, 3, none⟩ = some x3 ∧ w.cell? ⟨b, 4, none⟩ = some x4 ∧ w.cell? ⟨b, 5, none⟩ = some x5 ∧ w.cell? ⟨b, 6, none⟩ = some x6 ∧ w.cell? ⟨b, 7, none⟩ = some x7 ∧ w.cell? ⟨b, 8, none⟩ = some x8 ∧ w.cell? ⟨b, 9, none⟩ = some x9 ∧ w.cell? ⟨b, 10, none⟩ = some x10 :=
  ⟨cell_at h 0 rfl, cell_at h 1 rfl, cell_at h 2 rfl, cell_at h 3 rfl, cell_at h 4 rfl, cell_at h 5 rfl, cell_at h 6 rfl, cell_at h 7 rfl, cell_at h 8 rfl, cell_at h 9 rfl, cell_at h 10 rfl⟩
theorem froz11 {w : World} {b : Nat} {cs : Array Value} {T : TypeId} (h : w.heap[b]? = some (.cells cs T (0, 0))) : w.frozen? ⟨b, 0, none⟩ = false ∧ w.frozen? ⟨b, 1, none⟩ = false ∧ w.frozen? ⟨b, 2, none⟩ = false ∧ w.frozen? ⟨b, 3, none⟩ = false ∧ w.frozen? ⟨b, 4, none⟩ = false ∧ w.frozen? ⟨b, 5, none⟩ = false ∧ w.frozen? ⟨b, 6, none⟩ = false ∧ w.frozen? ⟨b, 7, none⟩ = false ∧ w.frozen? ⟨b, 8, none⟩ = false ∧ w.frozen? ⟨b, 9, none⟩ = false ∧ w.frozen? ⟨b, 10, none⟩ = false :=
  ⟨frozen_at h _, frozen_at h _, frozen_at h _, frozen_at h _, frozen_at h _, frozen_at h _, frozen_at h _, frozen_at h _, frozen_at h _, frozen_at h _, frozen_at h _⟩
abbrev set11w (w : World) (b : Nat) (p0 p1 p2 p3 p4 p5 p6 p7 p8 p9 p10 : Value) : World := ((((((((((w.setCell ⟨b, 0, none⟩ p0).setCell ⟨b, 1, none⟩ p1).setCell ⟨b, 2, none⟩ p2).setCell ⟨b, 3, none⟩ p3).setCell ⟨b, 4, none⟩ p4).setCell ⟨b, 5, none⟩ p5).setCell ⟨b, 6, none⟩ p6).setCell ⟨b, 7, none⟩ p7).setCell ⟨b, 8, none⟩ p8).setCell ⟨b, 9, none⟩ p9).setCell ⟨b, 10, none⟩ p10
theorem set11 {w : World} {b : Nat} {x0 x1 x2 x3 x4 x5 x6 x7 x8 x9 x10 : Value} {T : TypeId} (h : w.heap[b]? = some (.cells #[x0, x1, x2, x3, x4, x5, x6, x7, x8, x9, x10] T (0, 0))) (p0 p1 p2 p3 p4 p5 p6 p7 p8 p9 p10 : Value) : (set11w w b p0 p1 p2 p3 p4 p5 p6 p7 p8 p9 p10).heap[b]? = some (.cells #[p0, p1, p2, p3, p4, p5, p6, p7, p8, p9, p10] T (0, 0)) := by
  simp [set11w, World.setCell, Array.getElem?_modify, h]
theorem turned_set11 (w : World) (b : Nat) (p0 p1 p2 p3 p4 p5 p6 p7 p8 p9 p10 : Value) : Turned (fun j => j = b) w (set11w w b p0 p1 p2 p3 p4 p5 p6 p7 p8 p9 p10) := (((((((((((turned_set w b 0 _).trans (turned_set _ b 1 _)).trans (turned_set _ b 2 _)).trans (turned_set _ b 3 _)).trans (turned_set _ b 4 _)).trans (turned_set _ b 5 _)).trans (turned_set _ b 6 _)).trans (turned_set _ b 7 _)).trans (turned_set _ b 8 _)).trans (turned_set _ b 9 _)).trans (turned_set _ b 10 _))
theorem cell12 {w : World} {b : Nat} {x0 x1 x2 x3 x4 x5 x6 x7 x8 x9 x10 x11 : Value} {T : TypeId} (h : w.heap[b]? = some (.cells #[x0, x1, x2, x3, x4, x5, x6, x7, x8, x9, x10, x11] T (0, 0))) : w.cell? ⟨b, 0, none⟩ = some x0 ∧ w.cell? ⟨b, 1, none⟩ = some x1 ∧ w.cell? ⟨b, 2, none⟩ = some x2 ∧ w.cell? ⟨b, 3, none⟩ = some x3 ∧ w.cell? ⟨b, 4, none⟩ = some x4 ∧ w.cell? ⟨b, 5, none⟩ = some x5 ∧ w.cell? ⟨b, 6, none⟩ = some x6 ∧ w.cell? ⟨b, 7, none⟩ = some x7 ∧ w.cell? ⟨b, 8, none⟩ = some x8 ∧ w.cell? ⟨b, 9, none⟩ = some x9 ∧ w.cell? ⟨b, 10, none⟩ = some x10 ∧ w.cell? ⟨b, 11, none⟩ = some x11 :=
  ⟨cell_at h 0 rfl, cell_at h 1 rfl, cell_at h 2 rfl, cell_at h 3 rfl, cell_at h 4 rfl, cell_at h 5 rfl, cell_at h 6 rfl, cell_at h 7 rfl, cell_at h 8 rfl, cell_at h 9 rfl, cell_at h 10 rfl, cell_at h 11 rfl⟩
theorem froz12 {w : World} {b : Nat} {cs : Array Value} {T : TypeId} (h : w.heap[b]? = some (.cells cs T (0, 0))) : w.frozen? ⟨b, 0, none⟩ = false ∧ w.frozen? ⟨b, 1, none⟩ = false ∧ w.frozen? ⟨b, 2, none⟩ = false ∧ w.frozen? ⟨b, 3, none⟩ = false ∧ w.frozen? ⟨b, 4, none⟩ = false ∧ w.frozen? ⟨b, 5, none⟩ = false ∧ w.frozen? ⟨b, 6, none⟩ = false ∧ w.frozen? ⟨b, 7, none⟩ = false ∧ w.frozen? ⟨b, 8, none⟩ = false ∧ w.frozen? ⟨b, 9, none⟩ = false ∧ w.frozen? ⟨b, 10, none⟩ = false ∧ w.frozen? ⟨b, 11, none⟩ = false :=
  ⟨frozen_at h _, frozen_at h _, frozen_at h _, frozen_at h _, frozen_at h _, frozen_at h _, frozen_at h _, frozen_at h _, frozen_at h _, frozen_at h _, frozen_at h _, frozen_at h _⟩
abbrev set12w (w : World) (b : Nat) (p0 p1 p2 p3 p4 p5 p6 p7 p8 p9 p10 p11 : Value) : World := (((((((((((w.setCell ⟨b, 0, none⟩ p0).setCell ⟨b, 1, none⟩ p1).setCell ⟨b, 2, none⟩ p2).setCell ⟨b, 3, none⟩ p3).setCell ⟨b, 4, none⟩ p4).setCell ⟨b, 5, none⟩ p5).setCell ⟨b, 6, none⟩ p6).setCell ⟨b, 7, none⟩ p7).setCell ⟨b, 8, none⟩ p8).setCell ⟨b, 9, none⟩ p9).setCell ⟨b, 10, none⟩ p10).setCell ⟨b, 11, none⟩ p11
theorem set12 {w : World} {b : Nat} {x0 x1 x2 x3 x4 x5 x6 x7 x8 x9 x10 x11 : Value} {T : TypeId} (h : w.heap[b]? = some (.cells #[x0, x1, x2, x3, x4, x5, x6, x7, x8, x9, x10, x11] T (0, 0))) (p0 p1 p2 p3 p4 p5 p6 p7 p8 p9 p10 p11 : Value) : (set12w w b p0 p1 p2 p3 p4 p5 p6 p7 p8 p9 p10 p11).heap[b]? = some (.cells #[p0, p1, p2, p3, p4, p5, p6, p7, p8, p9, p10, p11] T (0, 0)) := by
  simp [set12w, World.setCell, Array.getElem?_modify, h]
theorem turned_set12 (w : World) (b : Nat) (p0 p1 p2 p3 p4 p5 p6 p7 p8 p9 p10 p11 : Value) : Turned (fun j => j = b) w (set12w w b p0 p1 p2 p3 p4 p5 p6 p7 p8 p9 p10 p11) := ((((((((((((turned_set w b 0 _).trans (turned_set _ b 1 _)).trans (turned_set _ b 2 _)).trans (turned_set _ b 3 _)).trans (turned_set _ b 4 _)).trans (turned_set _ b 5 _)).trans (turned_set _ b 6 _)).trans (turned_set _ b 7 _)).trans (turned_set _ b 8 _)).trans (turned_set _ b 9 _)).trans (turned_set _ b 10 _)).trans (turned_set _ b 11 _))
end Go.Proofs.YtlkncmpengpbiaaGreatDoor
/- Intakes in memory, the program's and the document's; intake.Accept where it refuses. -/
namespace Go.Proofs.YtlkncmpengpbiaaGreatDoor
open Go.RowKit Go.Maps Key Rw

abbrev tIn : TypeId := 85
abbrev tMapR : TypeId := 83
theorem zeroRow (w : World) : (zeroValue tRow).run Tryz.prog w = .ok (mkRow ((0, 0), 0, 0, 0)) w := by kernel_rfl
theorem mapR : Tryz.prog.underlying tMapR = some (.map tKey tRow) := by kernel_rfl
/-- A book's entries: each row at its key. -/
def entR (l : List R5) : List ((Int × Int) × R5) := l.map fun r => (r.1, r)
/-- The map of an intake: none, or the rows of all statements. -/
def MP (w : World) (m : Option Nat) (l : List R5) : Prop := (m = none ∧ l = []) ∨ ∃ b, m = some b ∧ MapL Tryz.prog tKey mkKey mkRow w b (entR l)
theorem MP.below {w w' : World} {m : Option Nat} {l : List R5} (h : MP w m l) (hb : Below w.heap.size w w') : MP w' m l := h.imp id fun ⟨b, e, h⟩ => ⟨b, e, h.below hb⟩
/-- An intake of the program's. -/
def InP (w : World) (v : Value) (I : In.Inn) : Prop := ∃ A0 n0 c0 A1 n1 c1 A2 n2 c2 m,
  v = .agg #[.int .i64 I.a.1, .int .i64 I.a.2.1, .slice A0 n0 c0, .int .i64 I.b.1, .int .i64 I.b.2.1, .slice A1 n1 c1, .int .i64 I.c.1, .int .i64 I.c.2.1, .slice A2 n2 c2, .map m] ∧
  Rd w (.slice A0 n0 c0) I.a.2.2 ∧ Rd w (.slice A1 n1 c1) I.b.2.2 ∧ Rd w (.slice A2 n2 c2) I.c.2.2 ∧ MP w m (In.rowsAll I)
theorem InP.below {w w' : World} {v : Value} {I : In.Inn} (h : InP w v I) (hb : Below w.heap.size w w') : InP w' v I := by
  obtain ⟨A0, n0, c0, A1, n1, c1, A2, n2, c2, m, rfl, h0, h1, h2, h3⟩ := h
  exact ⟨A0, n0, c0, A1, n1, c1, A2, n2, c2, m, rfl, h0.keep hb, h1.keep hb, h2.keep hb, h3.below hb⟩
theorem InP.nil (w : World) : InP w (.agg #[.int .i64 0, .int .i64 0, .slice none 0 0, .int .i64 0, .int .i64 0, .slice none 0 0, .int .i64 0, .int .i64 0, .slice none 0 0, .map none]) In.nil :=
  ⟨none, 0, 0, none, 0, 0, none, 0, 0, none, rfl, Rd.nil w, Rd.nil w, Rd.nil w, .inl ⟨rfl, rfl⟩⟩
/-- An intake of the document's. -/
def InR (w : World) (v : Value) (I : In.Inn) : Prop := ∃ A0 n0 c0 A1 n1 c1 A2 n2 c2,
  v = .agg #[.int .i64 I.a.1, .int .i64 I.a.2.1, .slice A0 n0 c0, .int .i64 I.b.1, .int .i64 I.b.2.1, .slice A1 n1 c1, .int .i64 I.c.1, .int .i64 I.c.2.1, .slice A2 n2 c2] ∧
  Rd w (.slice A0 n0 c0) I.a.2.2 ∧ Rd w (.slice A1 n1 c1) I.b.2.2 ∧ Rd w (.slice A2 n2 c2) I.c.2.2
theorem InR.below {w w' : World} {v : Value} {I : In.Inn} (h : InR w v I) (hb : Below w.heap.size w w') : InR w' v I := by
  obtain ⟨A0, n0, c0, A1, n1, c1, A2, n2, c2, rfl, h0, h1, h2⟩ := h
  exact ⟨A0, n0, c0, A1, n1, c1, A2, n2, c2, rfl, h0.keep hb, h1.keep hb, h2.keep hb⟩
theorem InR.nil (w : World) : InR w (.agg #[.int .i64 0, .int .i64 0, .slice none 0 0, .int .i64 0, .int .i64 0, .slice none 0 0, .int .i64 0, .int .i64 0, .slice none 0 0]) In.nil :=
  ⟨none, 0, 0, none, 0, 0, none, 0, 0, rfl, Rd.nil w, Rd.nil w, Rd.nil w⟩
abbrev vIn0 : Value := .agg #[.int .i64 0, .int .i64 0, .slice none 0 0, .int .i64 0, .int .i64 0, .slice none 0 0, .int .i64 0, .int .i64 0, .slice none 0 0, .map none]
abbrev vInR0 : Value := .agg #[.int .i64 0, .int .i64 0, .slice none 0 0, .int .i64 0, .int .i64 0, .slice none 0 0, .int .i64 0, .int .i64 0, .slice none 0 0]

theorem valid_at (w : World) (p s : Int) (v : Value) (l : List R5) (hR : Rd w v l) (hT : PT w) {b : Bool} (hv : validB p s l = b) (W : World) (hb : Below w.heap.size w W) :
    Calls Tryz.prog 135 #[.agg #[.int .i64 p, .int .i64 s, v]] W fun e w' => e = .returned (.bool b) ∧ Below W.heap.size W w' := by
  rw [← hv]; exact rowsValid_any W p s v l (hR.keep hb) (hT.below hb)

theorem below_of_grown {w w' : World} (h : w.grownBy w' none) : Below w.heap.size w w' := ⟨h.os, h.tape, h.output, h.size, fun i hi => h.block i hi (by simp)⟩
/-- Rows read as before where other blocks turned. -/
theorem Rd.turned {w w' : World} {v : Value} {l : List R5} (h : Rd w v l) {S : Nat → Prop} (ht : Turned S w w') (hS : ∀ ad n c, v = .slice (some ad) n c → 0 < l.length → ¬ S ad.block) : Rd w' v l := by
  obtain ⟨⟨A, n, c, rfl, hl, hn, hm, hc⟩, hnil⟩ := h
  refine ⟨⟨A, n, c, rfl, hl, hn, hm, fun i x hi => ?_⟩, hnil⟩
  obtain ⟨b, o, cs, e, hlt, hk, hcell, hr⟩ := hc i x hi
  have hp : 0 < l.length := by have := (List.getElem?_eq_some_iff.1 hi).1; omega
  refine ⟨b, o, cs, e, Nat.lt_of_lt_of_le hlt ht.size, hk, fun j u hj => ?_, hr⟩
  have hb := ht.block b hlt (hS ⟨b, o, none⟩ n c (by rw [e]) hp)
  have := hcell j u hj
  unfold World.cell? at this ⊢
  rw [hb]
  exact this
theorem MapL.turned {κ α : Type} {P : Program} {k : TypeId} {mkK : κ → Value} {mkV : α → Value} {w w' : World} {b : Nat} {E : List (κ × α)} (h : MapL P k mkK mkV w b E) {S : Nat → Prop} (ht : Turned S w w') (hS : ¬ S b) : MapL P k mkK mkV w' b E := h.block (ht.block b h.lt hS)
theorem heap_turned {w w' : World} {b : Nat} {o : Obj} (h : w.heap[b]? = some o) {S : Nat → Prop} (ht : Turned S w w') (hS : ¬ S b) : w'.heap[b]? = some o := (ht.block b (heap_lt h) hS).trans h
/-- Rows that lay there before lie below. -/
theorem rd_far {w : World} {v : Value} {l : List R5} (h : Rd w v l) {b : Nat} (hb : w.heap.size ≤ b) : ∀ ad n c, v = .slice (some ad) n c → 0 < l.length → ¬ ad.block = b := by
  intro ad n c e hl
  obtain ⟨A, c', rfl, _⟩ := h.shape
  injection e with e1 e2 e3
  subst e1
  obtain ⟨g, o, cs, e, hlt, _⟩ := h.1.at (List.getElem?_eq_getElem hl)
  injection e with e
  subst e
  simp only []
  omega
/-- The cells of what reads lie there. -/
theorem rd_near {w : World} {v : Value} {l : List R5} (h : Rd w v l) : ∀ ad n c, v = .slice (some ad) n c → 0 < l.length → ad.block < w.heap.size := by
  intro ad n c e hl
  obtain ⟨A, c', rfl, _⟩ := h.shape
  injection e with e1 e2 e3
  subst e1
  obtain ⟨g, o, cs, e, hlt, _⟩ := h.1.at (List.getElem?_eq_getElem hl)
  injection e with e
  subst e
  exact hlt
/-- The rows of the first k statements. -/
def preK (I : In.Inn) (k : Nat) : List R5 := if k = 0 then [] else if k = 1 then I.a.2.2 else if k = 2 then I.a.2.2 ++ I.b.2.2 else In.rowsAll I
theorem preK_len {I : In.Inn} (h : In.Fine I) (k : Nat) : (preK I k).length ≤ 1200 := by
  have := In.ok_len h.a; have := In.ok_len h.b; have := In.ok_len h.c
  unfold preK In.rowsAll
  split
  · simp
  · split
    · omega
    · split <;> simp <;> omega
/-- What a round of Accept's loop meets: a statement's value, its rows. -/
def AccRow (W : World) (bm : Nat) (I : In.Inn) (k : Nat) (x : Value) : Prop :=
  ∃ px sx Ax cx lx, x = .agg #[.int .i64 px, .int .i64 sx, .slice Ax lx.length cx] ∧ (∀ W', Turned (fun j => j = bm) W W' → Rd W' (.slice Ax lx.length cx) lx) ∧ lx.length ≤ 400 ∧ preK I (k + 1) = preK I k ++ lx ∧ (∀ y ∈ lx, chkB y.1 = true) ∧ (∀ j y, lx[j]? = some y → ∀ z ∈ preK I k ++ lx.take j, z.1 ≠ y.1)
theorem fresh_of {p l t : List R5} (h : ((p ++ l ++ t).map (·.1)).Nodup) : ∀ j y, l[j]? = some y → ∀ z ∈ p ++ l.take j, z.1 ≠ y.1 := by
  intro j y hj z hz
  obtain ⟨hjl, hy⟩ := List.getElem?_eq_some_iff.1 hj
  have e : l = l.take j ++ y :: l.drop (j + 1) := by rw [← hy, List.getElem_cons_drop, List.take_append_drop]
  rw [e, ← List.append_assoc p, List.append_assoc (p ++ l.take j), List.map_append] at h
  exact (List.nodup_append.1 h).2.2 _ (List.mem_map.2 ⟨z, hz, rfl⟩) _ (List.mem_map.2 ⟨y, by simp, rfl⟩)
theorem idx3_0 (p0 s0 p1 s1 p2 s2 : Int) (v0 v1 v2 : Value) (W : World) : (Instr.index 82 (.agg #[.int .i64 p0, .int .i64 s0, v0, .int .i64 p1, .int .i64 s1, v1, .int .i64 p2, .int .i64 s2, v2]) (.int .i64 0)).run Tryz.prog W = .ok (.agg #[.int .i64 p0, .int .i64 s0, v0]) W := by kernel_rfl
theorem idx3_1 (p0 s0 p1 s1 p2 s2 : Int) (v0 v1 v2 : Value) (W : World) : (Instr.index 82 (.agg #[.int .i64 p0, .int .i64 s0, v0, .int .i64 p1, .int .i64 s1, v1, .int .i64 p2, .int .i64 s2, v2]) (.int .i64 1)).run Tryz.prog W = .ok (.agg #[.int .i64 p1, .int .i64 s1, v1]) W := by kernel_rfl
theorem idx3_2 (p0 s0 p1 s1 p2 s2 : Int) (v0 v1 v2 : Value) (W : World) : (Instr.index 82 (.agg #[.int .i64 p0, .int .i64 s0, v0, .int .i64 p1, .int .i64 s1, v1, .int .i64 p2, .int .i64 s2, v2]) (.int .i64 2)).run Tryz.prog W = .ok (.agg #[.int .i64 p2, .int .i64 s2, v2]) W := by kernel_rfl
theorem acc_rows {W : World} {bm : Nat} {I : In.Inn} (h : In.Fine I) {v0 v1 v2 : Value} (h0 : ∀ W', Turned (fun j => j = bm) W W' → Rd W' v0 I.a.2.2) (h1 : ∀ W', Turned (fun j => j = bm) W W' → Rd W' v1 I.b.2.2) (h2 : ∀ W', Turned (fun j => j = bm) W W' → Rd W' v2 I.c.2.2) (k : Nat) (hk : k < 3) :
    ∃ x, AccRow W bm I k x ∧ ∀ W', (Instr.index 82 (.agg #[.int .i64 I.a.1, .int .i64 I.a.2.1, v0, .int .i64 I.b.1, .int .i64 I.b.2.1, v1, .int .i64 I.c.1, .int .i64 I.c.2.1, v2]) (.int .i64 (k : Int))).run Tryz.prog W' = .ok x W' := by
  have hn := h.nodup
  unfold In.rowsAll at hn
  match k, hk with
  | 0, _ =>
    obtain ⟨A, c, e, _⟩ := (h0 W (Turned.refl _ _)).shape
    subst e
    exact ⟨.agg #[.int .i64 I.a.1, .int .i64 I.a.2.1, .slice A I.a.2.2.length c], ⟨I.a.1, I.a.2.1, A, c, I.a.2.2, rfl, h0, In.ok_len h.a, rfl, fun y hy => (In.okRow_party (In.ok_rows h.a y hy)).2, fresh_of (p := []) (t := I.b.2.2 ++ I.c.2.2) (by simpa [List.append_assoc] using hn)⟩, fun W' => idx3_0 _ _ _ _ _ _ _ _ _ W'⟩
  | 1, _ =>
    obtain ⟨A, c, e, _⟩ := (h1 W (Turned.refl _ _)).shape
    subst e
    exact ⟨.agg #[.int .i64 I.b.1, .int .i64 I.b.2.1, .slice A I.b.2.2.length c], ⟨I.b.1, I.b.2.1, A, c, I.b.2.2, rfl, h1, In.ok_len h.b, rfl, fun y hy => (In.okRow_party (In.ok_rows h.b y hy)).2, fresh_of (p := I.a.2.2) (t := I.c.2.2) hn⟩, fun W' => idx3_1 _ _ _ _ _ _ _ _ _ W'⟩
  | 2, _ =>
    obtain ⟨A, c, e, _⟩ := (h2 W (Turned.refl _ _)).shape
    subst e
    exact ⟨.agg #[.int .i64 I.c.1, .int .i64 I.c.2.1, .slice A I.c.2.2.length c], ⟨I.c.1, I.c.2.1, A, c, I.c.2.2, rfl, h2, In.ok_len h.c, rfl, fun y hy => (In.okRow_party (In.ok_rows h.c y hy)).2, fresh_of (p := I.a.2.2 ++ I.b.2.2) (t := []) (by simpa using hn)⟩, fun W' => by kernel_rfl⟩
theorem entR_len (l : List R5) : (entR l).length = l.length := by unfold entR; simp
theorem entR_store {m : List R5} {y : R5} (h : ∀ z ∈ m, z.1 ≠ y.1) : ((y.1, y) :: without (entR m) y.1).Perm (entR (m ++ [y])) := by
  have e : without (entR m) y.1 = entR m := by
    unfold without
    rw [List.filter_eq_self]
    intro p hp
    obtain ⟨z, hz, rfl⟩ := List.mem_map.1 hp
    simpa using h z hz
  rw [e]
  unfold entR
  rw [List.map_append]
  exact (List.perm_append_comm (l₁ := [(y.1, y)])).trans (List.Perm.refl _)
theorem own_slice2 {w : World} {B : Nat} {e : TypeId} {z n : Nat} {v : Value} {xs : List Value} (h : w.ownsRow B e z v n xs) : ∃ A c, v = .slice A n c ∧ ∀ ad, A = some ad → B ≤ ad.block ∧ ad.block < w.heap.size := by
  rcases own_ptr h with ⟨rfl, rfl⟩ | ⟨g, c, rfl, h1, h2, _⟩
  · exact ⟨none, 0, rfl, fun ad e => by cases e⟩
  · exact ⟨_, c, rfl, fun ad e => by injection e with e; subst e; exact ⟨h1, h2⟩⟩
/-- A slice's elements are not in block b. -/
def OffL (b : Nat) (v : Value) (n : Nat) : Prop := ∀ ad m c, v = .slice (some ad) m c → 0 < n → ad.block ≠ b
/-- An intake's memory is not block b. -/
def Av (b : Nat) (v : Value) (I : In.Inn) : Prop := ∀ p0 s0 A0 n0 c0 p1 s1 A1 n1 c1 p2 s2 A2 n2 c2 m, v = .agg #[.int .i64 p0, .int .i64 s0, .slice A0 n0 c0, .int .i64 p1, .int .i64 s1, .slice A1 n1 c1, .int .i64 p2, .int .i64 s2, .slice A2 n2 c2, .map m] → OffL b (.slice A0 n0 c0) I.a.2.2.length ∧ OffL b (.slice A1 n1 c1) I.b.2.2.length ∧ OffL b (.slice A2 n2 c2) I.c.2.2.length ∧ m ≠ some b
theorem Av.get {b : Nat} {I : In.Inn} {p0 s0 p1 s1 p2 s2 : Int} {A0 A1 A2 : Option Addr} {n0 c0 n1 c1 n2 c2 : Nat} {m : Option Nat} (h : Av b (.agg #[.int .i64 p0, .int .i64 s0, .slice A0 n0 c0, .int .i64 p1, .int .i64 s1, .slice A1 n1 c1, .int .i64 p2, .int .i64 s2, .slice A2 n2 c2, .map m]) I) : OffL b (.slice A0 n0 c0) I.a.2.2.length ∧ OffL b (.slice A1 n1 c1) I.b.2.2.length ∧ OffL b (.slice A2 n2 c2) I.c.2.2.length ∧ m ≠ some b := h _ _ _ _ _ _ _ _ _ _ _ _ _ _ _ _ rfl
theorem Av.of {b : Nat} {I : In.Inn} {p0 s0 p1 s1 p2 s2 : Int} {A0 A1 A2 : Option Addr} {n0 c0 n1 c1 n2 c2 : Nat} {m : Option Nat} (h0 : OffL b (.slice A0 n0 c0) I.a.2.2.length) (h1 : OffL b (.slice A1 n1 c1) I.b.2.2.length) (h2 : OffL b (.slice A2 n2 c2) I.c.2.2.length) (hm : m ≠ some b) : Av b (.agg #[.int .i64 p0, .int .i64 s0, .slice A0 n0 c0, .int .i64 p1, .int .i64 s1, .slice A1 n1 c1, .int .i64 p2, .int .i64 s2, .slice A2 n2 c2, .map m]) I := by
  intro _ _ _ _ _ _ _ _ _ _ _ _ _ _ _ _ e
  simp only [Value.agg.injEq, Array.mk.injEq, List.cons.injEq, Value.slice.injEq, Value.map.injEq] at e
  obtain ⟨_, _, ⟨rfl, rfl, rfl⟩, _, _, ⟨rfl, rfl, rfl⟩, _, _, ⟨rfl, rfl, rfl⟩, rfl, _⟩ := e
  exact ⟨h0, h1, h2, hm⟩
theorem Av.nil (b : Nat) : Av b (.agg #[.int .i64 0, .int .i64 0, .slice none 0 0, .int .i64 0, .int .i64 0, .slice none 0 0, .int .i64 0, .int .i64 0, .slice none 0 0, .map none]) In.nil := Av.of (fun _ _ _ e => by cases e) (fun _ _ _ e => by cases e) (fun _ _ _ e => by cases e) (by simp)
theorem Av.far {w : World} {v : Value} {I : In.Inn} (h : InP w v I) {b : Nat} (hb : w.heap.size ≤ b) : Av b v I := by
  obtain ⟨A0, n0, c0, A1, n1, c1, A2, n2, c2, m, rfl, h0, h1, h2, h3⟩ := h
  refine Av.of (fun ad n c e hl => ?_) (fun ad n c e hl => ?_) (fun ad n c e hl => ?_) ?_
  · have := rd_near h0 ad n c e hl; omega
  · have := rd_near h1 ad n c e hl; omega
  · have := rd_near h2 ad n c e hl; omega
  · rcases h3 with ⟨rfl, _⟩ | ⟨b', rfl, h3⟩
    · simp
    · have := h3.lt
      simp
      omega
theorem InP.turned {w w' : World} {v : Value} {I : In.Inn} (h : InP w v I) {S : Nat → Prop} (ht : Turned S w w') (hS : ∀ b, S b → Av b v I) : InP w' v I := by
  obtain ⟨A0, n0, c0, A1, n1, c1, A2, n2, c2, m, rfl, h0, h1, h2, h3⟩ := h
  refine ⟨A0, n0, c0, A1, n1, c1, A2, n2, c2, m, rfl, h0.turned ht (fun ad n c e hl hs => (hS _ hs).get.1 ad n c e hl rfl), h1.turned ht (fun ad n c e hl hs => (hS _ hs).get.2.1 ad n c e hl rfl), h2.turned ht (fun ad n c e hl hs => (hS _ hs).get.2.2.1 ad n c e hl rfl), ?_⟩
  rcases h3 with h3 | ⟨b, rfl, h3⟩
  · exact .inl h3
  · exact .inr ⟨b, rfl, h3.turned ht (fun hs => (hS _ hs).get.2.2.2 rfl)⟩
abbrev zIn : Array Value := #[.int .i64 0, .int .i64 0, .slice none 0 0, .int .i64 0, .int .i64 0, .slice none 0 0, .int .i64 0, .int .i64 0, .slice none 0 0, .map none]
theorem three_new (w : World) (o0 o1 o2 : Array Value) (t0 t1 t2 : TypeId) {wa : World} (h : wa = ((w.alloc (.cells o0 t0)).alloc (.cells o1 t1)).alloc (.cells o2 t2)) :
    Below w.heap.size w wa ∧ wa.heap[w.heap.size]? = some (.cells o0 t0 (0, 0)) ∧ wa.heap[w.heap.size + 1]? = some (.cells o1 t1 (0, 0)) ∧ wa.heap[w.heap.size + 2]? = some (.cells o2 t2 (0, 0)) := by
  subst h
  refine ⟨((below_alloc w _).alloc (by simp) _).alloc (by simp; omega) _, heap_keep (heap_keep (heap_new w _) (below_alloc _ _)) (below_alloc _ _), ?_, ?_⟩
  · have := heap_keep (heap_new (w.alloc (.cells o0 t0)) (.cells o1 t1)) (below_alloc _ (.cells o2 t2))
    rwa [show (w.alloc (.cells o0 t0)).heap.size = w.heap.size + 1 by simp] at this
  · have := heap_new ((w.alloc (.cells o0 t0)).alloc (.cells o1 t1)) (.cells o2 t2)
    rwa [show ((w.alloc (.cells o0 t0)).alloc (.cells o1 t1)).heap.size = w.heap.size + 2 by simp] at this

set_option maxRecDepth 100000 in
set_option maxHeartbeats 2000000 in
theorem accept_arg (w : World) (v : Value) (I : In.Inn) (p s : Int) (u : Value) (l : List R5) (h : InP w v I) (hu : Rd w u l) (hT : PT w) (hv : validB p s l = false) :
    Calls Tryz.prog 103 #[v, .agg #[.int .i64 p, .int .i64 s, u]] w fun e w' => e = .returned (.tuple #[vIn0, .int .i64 2]) ∧ Below w.heap.size w w' := by
  obtain ⟨A0, n0, c0, A1, n1, c1, A2, n2, c2, m, rfl, h0, h1, h2, h3⟩ := h
  have HV := Lib.hid (valid_at w p s u l hu hT hv)
  obtain ⟨A, c, rfl, _⟩ := hu.shape
  obtain ⟨wa, HA⟩ : ∃ wa, wa = ((w.alloc (.cells #[.int .i64 I.a.1, .int .i64 I.a.2.1, .slice A0 n0 c0, .int .i64 I.b.1, .int .i64 I.b.2.1, .slice A1 n1 c1, .int .i64 I.c.1, .int .i64 I.c.2.1, .slice A2 n2 c2, .map m] tIn)).alloc (.cells #[.int .i64 p, .int .i64 s, .slice A l.length c] tStat)).alloc (.cells zIn tIn) := ⟨_, rfl⟩
  obtain ⟨HB, HI, HS, HZ⟩ := three_new w _ _ _ tIn tStat tIn HA
  have HB := Lib.hid HB; have HI := Lib.hid HI; have HS := Lib.hid HS; have HZ := Lib.hid HZ
  have HA := Lib.hid HA
  clear hu hT h0 h1 h2 h3 hv
  go_enter Tryz.func103, Tryz.ntmps103
  go_wp2_with fail
  rw [← HA.out]
  refine (HV.out _ HB.out).mono ?_
  rintro e w1 ⟨rfl, hb⟩
  have HB1 := Lib.hid (bch HB.out hb HB.out.size)
  have HZ1 := Lib.hid (heap_keep HZ.out hb)
  have hs := heap_lt HZ1.out
  obtain ⟨m0, m1, m2, m3, m4, m5, m6, m7, m8, m9⟩ := cell10 HZ1.out
  obtain ⟨f0, f1, f2, f3, f4, f5, f6, f7, f8, f9⟩ := froz10 HZ1.out
  clear hb
  go_wp2_with fail
  refine bodyPost_ret (v := .tuple #[vIn0, .int .i64 2]) (by simp [results, Tryz.results103, go_sem, m0, m1, m2, m3, m4, m5, m6, m7, m8, m9]) rfl ⟨rfl, ?_⟩
  exact Below.turned HB1.out (turned_set10 w1 _ _ _ _ _ _ _ _ _ _ _) (fun i h => by omega) HB1.out.size
set_option maxRecDepth 100000 in
set_option maxHeartbeats 2000000 in
theorem accept_stale (w : World) (v : Value) (I : In.Inn) (p s : Int) (u : Value) (l : List R5) (h : InP w v I) (hu : Rd w u l) (hT : PT w) (hv : validB p s l = true) (hs : s ≤ (I.at p).2.1) :
    Calls Tryz.prog 103 #[v, .agg #[.int .i64 p, .int .i64 s, u]] w fun e w' => e = .returned (.tuple #[vIn0, .int .i64 93]) ∧ Below w.heap.size w w' := by
  obtain ⟨A0, n0, c0, A1, n1, c1, A2, n2, c2, m, rfl, h0, h1, h2, h3⟩ := h
  have HV := Lib.hid (valid_at w p s u l hu hT hv)
  obtain ⟨A, c, rfl, _⟩ := hu.shape
  obtain ⟨wa, HA⟩ : ∃ wa, wa = ((w.alloc (.cells #[.int .i64 I.a.1, .int .i64 I.a.2.1, .slice A0 n0 c0, .int .i64 I.b.1, .int .i64 I.b.2.1, .slice A1 n1 c1, .int .i64 I.c.1, .int .i64 I.c.2.1, .slice A2 n2 c2, .map m] tIn)).alloc (.cells #[.int .i64 p, .int .i64 s, .slice A l.length c] tStat)).alloc (.cells zIn tIn) := ⟨_, rfl⟩
  obtain ⟨HB, HI, HS, HZ⟩ := three_new w _ _ _ tIn tStat tIn HA
  have HB := Lib.hid HB; have HI := Lib.hid HI; have HS := Lib.hid HS; have HZ := Lib.hid HZ
  have HA := Lib.hid HA
  have hp := In.valid_party hv
  clear hu hT h0 h1 h2 h3 hv
  rcases hp with rfl | rfl | rfl
  · have hs' : s ≤ I.a.2.1 := hs
    clear hs
    go_enter Tryz.func103, Tryz.ntmps103
    go_wp2_with fail
    rw [← HA.out]
    refine (HV.out _ HB.out).mono ?_
    rintro e w1 ⟨rfl, hb⟩
    have HB1 := Lib.hid (bch HB.out hb HB.out.size)
    have HZ1 := Lib.hid (heap_keep HZ.out hb)
    have HI1 := Lib.hid (heap_keep HI.out hb)
    have HS1 := Lib.hid (heap_keep HS.out hb)
    obtain ⟨i0, i1, i2, i3, i4, i5, i6, i7, i8, i9⟩ := cell10 HI1.out
    obtain ⟨k0, k1, k2⟩ := cell3c HS1.out
    have hsz := heap_lt HZ1.out
    obtain ⟨m0, m1, m2, m3, m4, m5, m6, m7, m8, m9⟩ := cell10 HZ1.out
    obtain ⟨f0, f1, f2, f3, f4, f5, f6, f7, f8, f9⟩ := froz10 HZ1.out
    clear hb
    go_wp2_with fail
    go_quiet (fail)
    go_wp2_with fail
    refine bodyPost_ret (v := .tuple #[vIn0, .int .i64 93]) (by simp [results, Tryz.results103, go_sem, m0, m1, m2, m3, m4, m5, m6, m7, m8, m9]) rfl ⟨rfl, ?_⟩
    exact Below.turned (below_drewN HB1.out _) (turned_set10 _ _ _ _ _ _ _ _ _ _ _ _) (fun i h => by omega) (below_drewN HB1.out _).size
  · have hs' : s ≤ I.b.2.1 := hs
    clear hs
    go_enter Tryz.func103, Tryz.ntmps103
    go_wp2_with fail
    rw [← HA.out]
    refine (HV.out _ HB.out).mono ?_
    rintro e w1 ⟨rfl, hb⟩
    have HB1 := Lib.hid (bch HB.out hb HB.out.size)
    have HZ1 := Lib.hid (heap_keep HZ.out hb)
    have HI1 := Lib.hid (heap_keep HI.out hb)
    have HS1 := Lib.hid (heap_keep HS.out hb)
    obtain ⟨i0, i1, i2, i3, i4, i5, i6, i7, i8, i9⟩ := cell10 HI1.out
    obtain ⟨k0, k1, k2⟩ := cell3c HS1.out
    have hsz := heap_lt HZ1.out
    obtain ⟨m0, m1, m2, m3, m4, m5, m6, m7, m8, m9⟩ := cell10 HZ1.out
    obtain ⟨f0, f1, f2, f3, f4, f5, f6, f7, f8, f9⟩ := froz10 HZ1.out
    clear hb
    go_wp2_with fail
    go_quiet (fail)
    go_wp2_with fail
    refine bodyPost_ret (v := .tuple #[vIn0, .int .i64 93]) (by simp [results, Tryz.results103, go_sem, m0, m1, m2, m3, m4, m5, m6, m7, m8, m9]) rfl ⟨rfl, ?_⟩
    exact Below.turned (below_drewN HB1.out _) (turned_set10 _ _ _ _ _ _ _ _ _ _ _ _) (fun i h => by omega) (below_drewN HB1.out _).size
  · have hs' : s ≤ I.c.2.1 := hs
    clear hs
    go_enter Tryz.func103, Tryz.ntmps103
    go_wp2_with fail
    rw [← HA.out]
    refine (HV.out _ HB.out).mono ?_
    rintro e w1 ⟨rfl, hb⟩
    have HB1 := Lib.hid (bch HB.out hb HB.out.size)
    have HZ1 := Lib.hid (heap_keep HZ.out hb)
    have HI1 := Lib.hid (heap_keep HI.out hb)
    have HS1 := Lib.hid (heap_keep HS.out hb)
    obtain ⟨i0, i1, i2, i3, i4, i5, i6, i7, i8, i9⟩ := cell10 HI1.out
    obtain ⟨k0, k1, k2⟩ := cell3c HS1.out
    have hsz := heap_lt HZ1.out
    obtain ⟨m0, m1, m2, m3, m4, m5, m6, m7, m8, m9⟩ := cell10 HZ1.out
    obtain ⟨f0, f1, f2, f3, f4, f5, f6, f7, f8, f9⟩ := froz10 HZ1.out
    clear hb
    go_wp2_with fail
    go_quiet (fail)
    go_wp2_with fail
    refine bodyPost_ret (v := .tuple #[vIn0, .int .i64 93]) (by simp [results, Tryz.results103, go_sem, m0, m1, m2, m3, m4, m5, m6, m7, m8, m9]) rfl ⟨rfl, ?_⟩
    exact Below.turned (below_drewN HB1.out _) (turned_set10 _ _ _ _ _ _ _ _ _ _ _ _) (fun i h => by omega) (below_drewN HB1.out _).size
end Go.Proofs.YtlkncmpengpbiaaGreatDoor
