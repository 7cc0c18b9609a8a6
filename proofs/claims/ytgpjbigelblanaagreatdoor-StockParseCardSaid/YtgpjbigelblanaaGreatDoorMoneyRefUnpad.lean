/- The document's Unpad: what it computes. -/
import Derived.Test.YtgpjbigelblanaaGreatDoorMoneyRef
namespace Go.Proofs.YtgpjbigelblanaaGreatDoor
open Go.RowKit Mon

end Go.Proofs.YtgpjbigelblanaaGreatDoor
