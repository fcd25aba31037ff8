/- Walks: deeds that are the same; deeds that are too great; deeds as values. -/
import Derived.Test.YtdbnfhpgmcjngadGreatDoorBdw
namespace Go.Proofs.YtdbnfhpgmcjngadGreatDoor
open Go Go.RowKit
end Go.Proofs.YtdbnfhpgmcjngadGreatDoor
