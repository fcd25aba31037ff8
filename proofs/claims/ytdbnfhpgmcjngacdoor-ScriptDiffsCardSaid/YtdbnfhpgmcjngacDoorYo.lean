/- What a 'Do' told, in three variables. -/
import Derived.Test.YtdbnfhpgmcjngacDoorVf
import Derived.Test.YtdbnfhpgmcjngacDoorBds
import Derived.Deep.DeepCutAuto
namespace Go.Proofs.YtdbnfhpgmcjngacDoor
open Go Go.RowKit
theorem alloc_secondD (w:World) (o1 o2:Obj):((w.alloc o1).alloc o2).heap[w.heap.size+1]? = some o2:=by simpa using heap_alloc_new (w.alloc o1) o2
end Go.Proofs.YtdbnfhpgmcjngacDoor
