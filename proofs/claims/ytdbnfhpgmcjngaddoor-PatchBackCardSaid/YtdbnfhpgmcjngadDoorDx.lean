/- Walks: may a deed be done, by the document? -/
import Derived.Test.YtdbnfhpgmcjngadDoorDw
namespace Go.Proofs.YtdbnfhpgmcjngadDoor
open Go Go.RowKit
end Go.Proofs.YtdbnfhpgmcjngadDoor
