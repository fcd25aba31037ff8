/- Walks: the document's deed done: a node named; a place that is not. -/
import Derived.Test.YtdbnfhpgmcjngabGreatDoorBdw
import Derived.Test.YtdbnfhpgmcjngabGreatDoorBwe
import Derived.Test.YtdbnfhpgmcjngabGreatDoorBcl
import Derived.Test.YtdbnfhpgmcjngabGreatDoorBgl
import Derived.Test.YtdbnfhpgmcjngabGreatDoorBma
import Derived.Test.YtdbnfhpgmcjngabGreatDoorBqt
import Derived.Deep.CutBlock
import Derived.Deep.DeepCutAuto
import Derived.Outline
import Derived.Deep.RegionWith
import Derived.Test.YtdbnfhpgmcjngabGreatDoorBef
namespace Go.Proofs.YtdbnfhpgmcjngabGreatDoor
open Go Go.RowKit
section
variable {S:Nat→Prop} {l:ByteArray} {ks:List Tr} {oa:Option Addr} {cap:Nat} {k a m:Int} {s:ByteArray} {pa:Option Addr} {np pc:Nat} {qa:Option Addr} {qc:Nat} {w:World}
end
end Go.Proofs.YtdbnfhpgmcjngabGreatDoor
/- Walks: the document's deed done: beneath a kid. -/
namespace Go.Proofs.YtdbnfhpgmcjngabGreatDoor
open Go Go.RowKit
theorem frozen_own {w:World} {b e size:Nat} {v:Value} {n:Nat} {xs:List Value} (h:w.ownsRow b e size v n xs) (hn:0 < n):∃ g cb cur,v=.slice (some ⟨g,0,none⟩) n cb∧b≤g∧w.heap[g]? = some (.cells cur e (0,0))∧n≤cb∧cb≤maxLen:=by
  rcases h.2 with ⟨_,h0⟩ | ⟨g,cb,cur,rfl,h1,h2,h3,h4,_⟩
  · omega
  · exact ⟨g,cb,cur,rfl,h1,h2,h3,h4⟩
section
variable {S:Nat→Prop} {l:ByteArray} {ks:List Tr} {oa:Option Addr} {cap:Nat} {k a m:Int} {s:ByteArray} {pa:Option Addr} {np pc:Nat} {qa:Option Addr} {qc:Nat} {w:World}
end
end Go.Proofs.YtdbnfhpgmcjngabGreatDoor
