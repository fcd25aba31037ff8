/- Contracts of library functions, laid at this program: numbers alone. -/
import Derived.Shelf.Small.Wraps
import Derived.Test.YtdbnfhpgmcjngadGreatDoorChecked
namespace Go.Proofs.YtdbnfhpgmcjngadGreatDoor
open Go Go.Shelf
def lays104_ren:Go.Shelf.Ren:=⟨fun | 104=>53 | 211=>79 | 207=>102 | n=>n,fun | 9=>9 | 4=>4 | 24=>110 | 3=>3 | n=>n,fun | n=>n⟩
theorem lays104:Go.Proofs.Lays.n104 Tryz.prog lays104_ren:={
  mixed:=by kernel_rfl
  f104:=Tryz.func53.trans (congrArg some (by kernel_rfl))
  f207:=Tryz.func102.trans (congrArg some (by kernel_rfl))
  f211:=Tryz.func79.trans (congrArg some (by kernel_rfl))
  t3:=Tryz.underlying3
  a3:=Tryz.isAgg3
  z3:=Tryz.sizeOf3
  v3:=Tryz.zeroValue3
  t4:=Tryz.underlying4
  a4:=Tryz.isAgg4
  z4:=Tryz.sizeOf4
  v4:=Tryz.zeroValue4
  t9:=Tryz.underlying9
  a9:=Tryz.isAgg9
  z9:=Tryz.sizeOf9
  v9:=Tryz.zeroValue9
  t24:=Tryz.underlying110
  a24:=Tryz.isAgg110
  z24:=Tryz.sizeOf110
  v24:=Tryz.zeroValue110 }
end Go.Proofs.YtdbnfhpgmcjngadGreatDoor
