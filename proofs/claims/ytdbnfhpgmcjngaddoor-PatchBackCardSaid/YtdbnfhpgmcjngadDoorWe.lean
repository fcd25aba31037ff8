/- Walks: trees in memory of their own. -/
import Derived.Test.YtdbnfhpgmcjngadDoorWd
import Derived.Test.YtdbnfhpgmcjngadDoorMt
namespace Go.Proofs.YtdbnfhpgmcjngadDoor
open Go Go.RowKit

/-- A tree came in new memory; nothing that was there has turned. -/
def OwnPost (w : World) (l : ByteArray) (ks : List Tr) (e : Ending) (w' : World) : Prop := ∃ oa cap, e = .returned (.agg #[.string l, .slice oa ks.length cap]) ∧ Kids (From w.heap.size) w' ks oa cap ∧ Pr w w'
end Go.Proofs.YtdbnfhpgmcjngadDoor
