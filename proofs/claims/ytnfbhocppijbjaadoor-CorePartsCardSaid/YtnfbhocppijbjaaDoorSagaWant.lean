/- What a deed of a saga comes to: the program's Want and the document's. -/
import Derived.Test.YtnfbhocppijbjaaDoorSagaMem
namespace Go.Proofs.YtnfbhocppijbjaaDoor
open Go.RowKit Key Sa

theorem want_eq {s : Sg} {k a q : Int} (h : wantI s k = (a, q)) : Value.tuple #[.int .i64 a, .int .i64 q] = .tuple #[.int .i64 (wantI s k).1, .int .i64 (wantI s k).2] := by rw [h]
end Go.Proofs.YtnfbhocppijbjaaDoor
