/- The laws on trees: their walks. -/
import Derived.Test.YtdbnfhpgmcjngacDoorBwe
import Derived.Test.YtdbnfhpgmcjngacDoorBqt
namespace Go.Proofs.YtdbnfhpgmcjngacDoor
open Go Go.RowKit
end Go.Proofs.YtdbnfhpgmcjngacDoor
