/- Walks: a line's deed; the document's. -/
import Derived.Test.YtdbnfhpgmcjngadGreatDoorPwg
namespace Go.Proofs.YtdbnfhpgmcjngadGreatDoor
open Go Go.RowKit
end Go.Proofs.YtdbnfhpgmcjngadGreatDoor
