/- The laws on trees: their walks. -/
import Derived.Test.YtdbnfhpgmcjngadGreatDoorBwe
import Derived.Test.YtdbnfhpgmcjngadGreatDoorBqt
namespace Go.Proofs.YtdbnfhpgmcjngadGreatDoor
open Go Go.RowKit
end Go.Proofs.YtdbnfhpgmcjngadGreatDoor
