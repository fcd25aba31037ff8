/- Walks: deeds that are the same; deeds that are too great; deeds as values. -/
import Derived.Test.YtdbnfhpgmcjngacGreatBdw
namespace Go.Proofs.YtdbnfhpgmcjngacGreat
open Go Go.RowKit
def greatD (p:List Int) (s:ByteArray):Bool:=decide (60 < p.length) || decide (100 < s.size)
theorem greatDeed_any (k:Int) (p:List Int) (a m:Int) (s:ByteArray) (pa pc) (w:World) (hp:Ints Any w p pa pc) :
    Calls Tryz.prog 6 #[.agg #[.int .i64 k,.slice pa p.length pc,.int .i64 a,.int .i64 m,.string s]] w fun e w'=>e=.returned (.bool (greatD p s))∧Pr w w':=by
  have hl:=Ints.len hp
  clear hp
  obtain ⟨g,hg⟩:∃ g,g=greatD p s:=⟨_,rfl⟩
  rw [← hg]
  unfold greatD at hg
  by_cases h1:60 < p.length
  · rw [decide_eq_true h1,Bool.true_or] at hg
    subst hg
    have e1:(60:Int) < p.length:=by omega
    go_enter Tryz.func6,Tryz.ntmps6
    go_wp2_with fail
    go_ret
    exact ⟨rfl,Pr.alloc _ _⟩
  · rw [decide_eq_false h1,Bool.false_or] at hg
    have e1:¬ (60:Int) < p.length:=by omega
    have e2:decide ((100:Int) < s.size)=g:=by rw [hg,Bool.eq_iff_iff];simp;omega
    have e3:decide (100 < s.size)=g:=by rw [hg]
    clear hg
    go_enter Tryz.func6,Tryz.ntmps6
    go_wp2_with fail
    go_ret
    exact ⟨by simp,Pr.alloc _ _⟩
end Go.Proofs.YtdbnfhpgmcjngacGreat
