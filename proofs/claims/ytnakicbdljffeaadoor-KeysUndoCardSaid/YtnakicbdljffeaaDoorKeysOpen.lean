/- An argument that is a key: two numbers. Of no program. -/
import Derived.Test.YtnakicbdljffeaaDoorRows
import Derived.Lib.SmallJoins
import Derived.OpenShut
namespace Go.Proofs.YtnakicbdljffeaaDoor
open Go.ChangeShapes Go.WideShapes Go.Joins Go.Deep

theorem open_key {H : Type} {enc : TypeId × Value → H} {P : Program} {w : World} {base : Nat} {spare : Nat → Bool} {held : Bool} {r : Reach} {b0 : Nat} {t : TypeId} {f0 f1 : Field} {v : Value} {d : DataW H} {p : List MemPlace}
    (hs : P.underlying t = some (.struct #[f0, f1])) (hone : oneCellFields P #[f0, f1] = true) (hC : P.cellsOf t = 2) (h0 : P.underlying f0.type = some (.int .i64)) (h1 : P.underlying f1.type = some (.int .i64))
    (hv : Value.okWide P w r b0 t v) (h : DataW.Trod enc P w base spare held t v d p) :
    ∃ a b, v = .agg #[.int .i64 a, .int .i64 b] ∧ d = .agg [.lit (.int .i64 a), .lit (.int .i64 b)] ∧ p = [] ∧ (-9223372036854775808 ≤ a ∧ a ≤ 9223372036854775807) ∧ (-9223372036854775808 ≤ b ∧ b ≤ 9223372036854775807) := by
  obtain ⟨v0, v1, y0, y1, n, rfl, rfl, rfl, e0, e1⟩ := open_agg2 hs hone hC hv h
  obtain ⟨a, ha, rfl, wa⟩ := DataW.trod_int h0 e0
  obtain ⟨b, hb, rfl, wb⟩ := DataW.trod_int h1 e1
  simp only [List.cons.injEq, and_true] at ha hb
  subst ha; subst hb
  exact ⟨a, b, rfl, rfl, rfl, bounds_i64 wa, bounds_i64 wb⟩
end Go.Proofs.YtnakicbdljffeaaDoor
