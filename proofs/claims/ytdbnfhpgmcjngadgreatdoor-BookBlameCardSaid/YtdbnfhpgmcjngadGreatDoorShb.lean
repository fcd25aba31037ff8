/- Numbers and texts: contracts of the library's functions in our words. -/
import Derived.Test.YtdbnfhpgmcjngadGreatDoorSha
import Derived.Test.YtdbnfhpgmcjngadGreatDoorPp
import Derived.Test.YtdbnfhpgmcjngadGreatDoorMem
import Derived.Lib.SmallJoins
import Derived.Lib.AppendIntMem
namespace Go.Proofs.YtdbnfhpgmcjngadGreatDoor
open Go Go.RowKit
theorem named_tab : Tryz.prog.globalNamed "internal/strconv.uint64pow10" = some 2 := by kernel_rfl
theorem bytes_pr (w:World) (e:TypeId) (t:ByteArray):Pr w (Lib.bytesWorld w e t):=Lib.bytesWorld_below w e t
theorem atoi_ok (s:ByteArray) (hs:s.size≤9223372036854775806) (v:Int) (h:Lib.atoiAll s.data.toList=.ok v) (w:World) :
    Calls Tryz.prog 35 #[.string s] w fun e w'=>e=.returned (.tuple #[.int .i64 v,.nilIface])∧Pr w w':=by
  refine Calls.mono (Any.strconv_Atoi_ok laysC172 s hs v h w) ?_
  rintro e w' ⟨rfl,rfl | ⟨t,rfl⟩⟩
  · exact ⟨rfl,Pr.refl _⟩
  · exact ⟨rfl,bytes_pr _ _ _⟩
end Go.Proofs.YtdbnfhpgmcjngadGreatDoor
