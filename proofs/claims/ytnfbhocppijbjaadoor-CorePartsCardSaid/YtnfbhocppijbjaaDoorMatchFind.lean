/- match.Find: what it collects, sorted. -/
import Derived.Test.YtnfbhocppijbjaaDoorSagaRows
import Derived.Maps.AppendAt
namespace Go.Proofs.YtnfbhocppijbjaaDoor
open Go.RowKit Go.Maps Go.Lib Key Rw Sa Ma

abbrev tInt : TypeId := 3
abbrev mkI (i : Int) : Value := .int .i64 i
theorem mkI_inj (k : Int) : ∀ y, mkI y = mkI k → y = k := by intro y h; simpa [mkI] using h
theorem lawInt : Keyed Tryd.prog tInt := int_keyed Tryd.underlying3
theorem zeroInt (w : World) : (zeroValue tInt).run Tryd.prog w = .ok (mkI 0) w := by kernel_rfl
theorem int_reads (i : Int) (h : -9223372036854775808 ≤ i ∧ i ≤ 9223372036854775807) : ∃ l, keyOf Tryd.prog tInt (mkI i) = some l := by
  have w1 : (Lit.int .i64 i).wf = true := by simp [Lit.wf, IntKind.min, IntKind.max, IntKind.signed, IntKind.bits]; omega
  exact ⟨_, keyOf_int_mk Tryd.underlying3 w1⟩


end Go.Proofs.YtnfbhocppijbjaaDoor
