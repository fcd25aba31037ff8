/- Walks: what the document's answer looks at in a tree. -/
import Derived.Test.YtdbnfhpgmcjngadDoorWb
namespace Go.Proofs.YtdbnfhpgmcjngadDoor
open Go Go.RowKit

end Go.Proofs.YtdbnfhpgmcjngadDoor
