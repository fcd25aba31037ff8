/- Plain: deeds as lines. No program here. -/
import Derived.Test.YtdbnfhpgmcjngacDoorBpl
import Derived.Lib.ItoaNum
import Derived.Lib.AtoiAll
import Derived.Lib.Atoi
namespace Go.Proofs.YtdbnfhpgmcjngacDoor
open Go
end Go.Proofs.YtdbnfhpgmcjngacDoor
