/- keys.Undoes; the document's Party. -/
import Derived.Test.YtgpjbigelblanaaDoorKeysCore
namespace Go.Proofs.YtgpjbigelblanaaDoor
open Go.RowKit Key

end Go.Proofs.YtgpjbigelblanaaDoor
