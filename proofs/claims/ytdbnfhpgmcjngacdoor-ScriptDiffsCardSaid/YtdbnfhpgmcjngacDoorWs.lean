/- Walks: the tree of nodes, as the document's answer makes it. -/
import Derived.Test.YtdbnfhpgmcjngacDoorWr
import Derived.Test.YtdbnfhpgmcjngacDoorBpl
namespace Go.Proofs.YtdbnfhpgmcjngacDoor
open Go Go.RowKit
end Go.Proofs.YtdbnfhpgmcjngacDoor
