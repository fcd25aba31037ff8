/- Numbers and texts: contracts of the library's functions in our words. -/
import Derived.Test.YtdbnfhpgmcjngacDoorSha
import Derived.Test.YtdbnfhpgmcjngacDoorPp
import Derived.Test.YtdbnfhpgmcjngacDoorMem
import Derived.Lib.SmallJoins
import Derived.Lib.AppendIntMem
namespace Go.Proofs.YtdbnfhpgmcjngacDoor
open Go Go.RowKit
theorem named_tab : Tryd.prog.globalNamed "internal/strconv.uint64pow10" = some 3 := by kernel_rfl
end Go.Proofs.YtdbnfhpgmcjngacDoor
