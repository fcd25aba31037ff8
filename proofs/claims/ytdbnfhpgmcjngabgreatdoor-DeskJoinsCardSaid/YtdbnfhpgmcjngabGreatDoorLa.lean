/- The laws on trees: their walks. -/
import Derived.Test.YtdbnfhpgmcjngabGreatDoorBwe
import Derived.Test.YtdbnfhpgmcjngabGreatDoorBqt
namespace Go.Proofs.YtdbnfhpgmcjngabGreatDoor
open Go Go.RowKit
end Go.Proofs.YtdbnfhpgmcjngabGreatDoor
