/- The law BookFirst: its walk. -/
import Derived.Test.YtdbnfhpgmcjngacGreatBzv
import Derived.Test.YtdbnfhpgmcjngacGreatBgl
import Derived.Test.YtdbnfhpgmcjngacGreatLcx
namespace Go.Proofs.YtdbnfhpgmcjngacGreat
open Go Go.RowKit
end Go.Proofs.YtdbnfhpgmcjngacGreat
