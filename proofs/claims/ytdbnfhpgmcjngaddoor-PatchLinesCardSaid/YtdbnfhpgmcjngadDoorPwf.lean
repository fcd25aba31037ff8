/- Walks: a deed's line; the document's. -/
import Derived.Test.YtdbnfhpgmcjngadDoorPwe
namespace Go.Proofs.YtdbnfhpgmcjngadDoor
open Go Go.RowKit

end Go.Proofs.YtdbnfhpgmcjngadDoor
