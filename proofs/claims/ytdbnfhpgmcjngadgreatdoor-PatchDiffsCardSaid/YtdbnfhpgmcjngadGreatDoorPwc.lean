/- Walks: texts of one's own; a text, cut (the document's). -/
import Derived.Test.YtdbnfhpgmcjngadGreatDoorPwb
import Derived.Test.YtdbnfhpgmcjngadGreatDoorBmt
namespace Go.Proofs.YtdbnfhpgmcjngadGreatDoor
open Go Go.RowKit
section
variable {ops:Array Oper} {o:Oper} {a:Act} {w:World} {rest:List Oper} {Q:Exit→Act→World→Prop}
end
theorem cut_le (c:UInt8):∀ (l:List UInt8),∀ x∈cutC c l,x.length≤l.length
  | [],x,h=>by simp [cutC] at h;subst h;simp
  | b :: r,x,h=>by
    have ih:=cut_le c r
    by_cases hb:b=c
    · subst hb;rw [cutC_same] at h
      rcases List.mem_cons.1 h with rfl | h
      · simp
      · have:=ih x h;simp;omega
    · rw [cutC_other _ hb] at h
      rcases List.mem_cons.1 h with rfl | h
      · have:=ih ((cutC c r).headD []) (by rw [cutC_split];simp)
        simp only [List.length_cons];omega
      · have:=ih x (by rw [cutC_split];simp [h]);simp;omega
end Go.Proofs.YtdbnfhpgmcjngadGreatDoor
