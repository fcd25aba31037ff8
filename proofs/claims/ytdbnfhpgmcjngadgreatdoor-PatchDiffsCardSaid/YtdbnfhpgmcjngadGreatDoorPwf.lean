/- Walks: a deed's line; the document's. -/
import Derived.Test.YtdbnfhpgmcjngadGreatDoorPwe
namespace Go.Proofs.YtdbnfhpgmcjngadGreatDoor
open Go Go.RowKit
end Go.Proofs.YtdbnfhpgmcjngadGreatDoor
