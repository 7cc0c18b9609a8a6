/- The document's Pad: what it computes. -/
import Derived.Test.YtgpjbigelblanaaGreatDoorMoneyPad
import Derived.Test.YtgpjbigelblanaaGreatDoorMoneyRefPut
namespace Go.Proofs.YtgpjbigelblanaaGreatDoor
open Go.RowKit Mon

end Go.Proofs.YtgpjbigelblanaaGreatDoor
