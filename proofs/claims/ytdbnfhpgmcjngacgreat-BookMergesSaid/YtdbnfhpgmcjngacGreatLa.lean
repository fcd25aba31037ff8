/- The laws on trees: their walks. -/
import Derived.Test.YtdbnfhpgmcjngacGreatBwe
import Derived.Test.YtdbnfhpgmcjngacGreatBqt
namespace Go.Proofs.YtdbnfhpgmcjngacGreat
open Go Go.RowKit
end Go.Proofs.YtdbnfhpgmcjngacGreat
