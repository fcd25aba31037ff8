/- Plain: deeds as lines. No program here. -/
import Derived.Test.YtdbnfhpgmcjngadGreatDoorBpl
import Derived.Lib.ItoaNum
import Derived.Lib.AtoiAll
import Derived.Lib.Atoi
namespace Go.Proofs.YtdbnfhpgmcjngadGreatDoor
open Go
theorem atoi_dec:∀ n:Fin 1000,Lib.atoiAll (Lib.decDigits n.val)=.ok (n.val:Int):=by decide +kernel
end Go.Proofs.YtdbnfhpgmcjngadGreatDoor
