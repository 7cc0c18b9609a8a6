/- The document's intake: Accept, Row. -/
import Derived.Test.YtnfbhocppijbjaaDoorIntakeTell
import Derived.Test.YtnfbhocppijbjaaDoorRefRowValid
namespace Go.Proofs.YtnfbhocppijbjaaDoor
open Go.RowKit Go.Maps Key Rw

abbrev zInR : Array Value := #[.int .i64 0, .int .i64 0, .slice none 0 0, .int .i64 0, .int .i64 0, .slice none 0 0, .int .i64 0, .int .i64 0, .slice none 0 0]
/-- The rows of an intake of the document's are not in block b. -/
def AvR (b : Nat) (v : Value) (I : In.Inn) : Prop := ∀ p0 s0 A0 n0 c0 p1 s1 A1 n1 c1 p2 s2 A2 n2 c2, v = .agg #[.int .i64 p0, .int .i64 s0, .slice A0 n0 c0, .int .i64 p1, .int .i64 s1, .slice A1 n1 c1, .int .i64 p2, .int .i64 s2, .slice A2 n2 c2] → OffL b (.slice A0 n0 c0) I.a.2.2.length ∧ OffL b (.slice A1 n1 c1) I.b.2.2.length ∧ OffL b (.slice A2 n2 c2) I.c.2.2.length
theorem AvR.of {b : Nat} {I : In.Inn} {p0 s0 p1 s1 p2 s2 : Int} {A0 A1 A2 : Option Addr} {n0 c0 n1 c1 n2 c2 : Nat} (h0 : OffL b (.slice A0 n0 c0) I.a.2.2.length) (h1 : OffL b (.slice A1 n1 c1) I.b.2.2.length) (h2 : OffL b (.slice A2 n2 c2) I.c.2.2.length) : AvR b (.agg #[.int .i64 p0, .int .i64 s0, .slice A0 n0 c0, .int .i64 p1, .int .i64 s1, .slice A1 n1 c1, .int .i64 p2, .int .i64 s2, .slice A2 n2 c2]) I := by
  intro _ _ _ _ _ _ _ _ _ _ _ _ _ _ _ e
  simp only [Value.agg.injEq, Array.mk.injEq, List.cons.injEq, Value.slice.injEq] at e
  obtain ⟨_, _, ⟨rfl, rfl, rfl⟩, _, _, ⟨rfl, rfl, rfl⟩, _, _, ⟨rfl, rfl, rfl⟩, _⟩ := e
  exact ⟨h0, h1, h2⟩
theorem AvR.nil (b : Nat) : AvR b vInR0 In.nil := AvR.of (fun _ _ _ e => by cases e) (fun _ _ _ e => by cases e) (fun _ _ _ e => by cases e)
theorem InR.turned {w w' : World} {v : Value} {I : In.Inn} (h : InR w v I) {S : Nat → Prop} (ht : Turned S w w') (hS : ∀ b, S b → AvR b v I) : InR w' v I := by
  obtain ⟨A0, n0, c0, A1, n1, c1, A2, n2, c2, rfl, h0, h1, h2⟩ := h
  exact ⟨A0, n0, c0, A1, n1, c1, A2, n2, c2, rfl, h0.turned ht (fun ad n c e hl hs => (hS _ hs _ _ _ _ _ _ _ _ _ _ _ _ _ _ _ rfl).1 ad n c e hl rfl), h1.turned ht (fun ad n c e hl hs => (hS _ hs _ _ _ _ _ _ _ _ _ _ _ _ _ _ _ rfl).2.1 ad n c e hl rfl), h2.turned ht (fun ad n c e hl hs => (hS _ hs _ _ _ _ _ _ _ _ _ _ _ _ _ _ _ rfl).2.2 ad n c e hl rfl)⟩
end Go.Proofs.YtnfbhocppijbjaaDoor
