/- A cut: a number from 0 to n. No program here. -/
import Derived.Test.YtdbnfhpgmcjngacGreatMem
namespace Go.Proofs.YtdbnfhpgmcjngacGreat
open Go Go.RowKit
end Go.Proofs.YtdbnfhpgmcjngacGreat
