/- The laws on nodes: how they begin. -/
import Derived.Test.YtdbnfhpgmcjngacDoorWt
import Derived.Test.YtdbnfhpgmcjngacDoorBwn
import Derived.Test.YtdbnfhpgmcjngacDoorWr
import Derived.Test.YtdbnfhpgmcjngacDoorLa
namespace Go.Proofs.YtdbnfhpgmcjngacDoor
open Go Go.RowKit
end Go.Proofs.YtdbnfhpgmcjngacDoor
