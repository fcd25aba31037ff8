/- Numbers as texts, where one table of the library's alone is known. -/
import Derived.Test.YtdbnfhpgmcjngadGreatDoorShb
import Derived.Lib.ItoaLen
namespace Go.Proofs.YtdbnfhpgmcjngadGreatDoor
open Go Go.RowKit
def Lt (w : World) : Prop := Lib.TabIs Tryz.prog w "internal/strconv.uint64pow10" .u64 Lib.pow10Tab
theorem named_tabT : Tryz.prog.globalNamed "internal/strconv.uint64pow10" = some 2 := by kernel_rfl
theorem Lt.pr {w w':World} (h:Lt w) (hp:Pr w w'):Lt w':=Go.Joins.tab_stays named_tabT h hp (Nat.le_refl _)
def numB (n:Int):ByteArray:=⟨⟨Lib.itoa n⟩⟩
theorem numB_size {n:Int} (h0:-9223372036854775808≤n) (h1:n≤9223372036854775807):(numB n).size≤maxLen:=by
  have h:=Lib.itoa_length_le n h0 h1
  show (Lib.itoa n).length≤maxLen
  unfold maxLen;omega
theorem num_any (n:Int) (h0:-9223372036854775808≤n) (h1:n≤9223372036854775807) (w:World) (h:Lt w) :
    Calls Tryz.prog 32 #[.int .i64 n] w fun e w'=>e=.returned (.string (numB n))∧Pr w w':=by
  refine Calls.mono (Any.strconv_Itoa laysM171 n h0 h1 w h) ?_
  rintro e w' ⟨rfl,k,os,rfl⟩
  exact ⟨rfl,Lib.below_grow _ w (Nat.le_refl _) k os⟩
end Go.Proofs.YtdbnfhpgmcjngadGreatDoor
