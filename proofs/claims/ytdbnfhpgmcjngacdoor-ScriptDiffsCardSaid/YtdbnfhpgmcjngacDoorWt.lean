/- Walks: the tree of nodes, as the program makes it. -/
import Derived.Test.YtdbnfhpgmcjngacDoorWs
import Derived.Test.YtdbnfhpgmcjngacDoorBqt
import Derived.Test.YtdbnfhpgmcjngacDoorBpl
import Derived.Deep.CutBlock
import Derived.Deep.DeepCutAuto
namespace Go.Proofs.YtdbnfhpgmcjngacDoor
open Go Go.RowKit
end Go.Proofs.YtdbnfhpgmcjngacDoor
