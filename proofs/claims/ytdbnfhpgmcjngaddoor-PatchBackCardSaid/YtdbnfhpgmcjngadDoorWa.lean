/- Walks: the functions that look at a tree: its size, its depth, its labels. -/
import Derived.Test.YtdbnfhpgmcjngadDoorMem
import Derived.Test.YtdbnfhpgmcjngadDoorProg
namespace Go.Proofs.YtdbnfhpgmcjngadDoor
open Go Go.RowKit

theorem ret_int {k : IntKind} {a b : Int} (h : a = b) : Ending.returned (.int k a) = .returned (.int k b) := by rw [h]
theorem ret_bool {a b : Bool} (h : a = b) : Ending.returned (.bool a) = .returned (.bool b) := by rw [h]

/-- What tree.left tells. -/
def leftR (s : Nat) (n : Int) : Int := max (n - s) (-1)

/-- What pleachingref.SizeOf tells. -/
def sizeR (s : Nat) (m : Int) : Int := min (s : Int) (m + 1)

end Go.Proofs.YtdbnfhpgmcjngadDoor
