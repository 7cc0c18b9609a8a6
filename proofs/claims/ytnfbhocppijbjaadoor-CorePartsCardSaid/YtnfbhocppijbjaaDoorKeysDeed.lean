/- keys.Undoes; the document's Party. -/
import Derived.Test.YtnfbhocppijbjaaDoorKeysCore
namespace Go.Proofs.YtnfbhocppijbjaaDoor
open Go.RowKit Key

end Go.Proofs.YtnfbhocppijbjaaDoor
