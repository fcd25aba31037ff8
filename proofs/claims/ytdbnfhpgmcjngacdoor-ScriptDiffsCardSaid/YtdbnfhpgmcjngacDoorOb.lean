/- The law OrderDoes: its walk. -/
import Derived.Test.YtdbnfhpgmcjngacDoorOa
import Derived.Test.YtdbnfhpgmcjngacDoorBop
namespace Go.Proofs.YtdbnfhpgmcjngacDoor
open Go Go.RowKit
theorem nodesOf_yes (l:ByteArray) (ks:List Tr) (oa cap) (w:World) (h:Tr.szL ks≤100000) (hk:Kids Any w ks oa cap) :
    Calls Tryd.prog 48 #[.agg #[.string l,.slice oa ks.length cap],.slice none 0 0] w fun e w'=>∃ g c,e=.returned (.slice (some ⟨g,0,none⟩) (Tr.szL ks+1) c)∧Nds Any w' (nds (.node l ks)) (some ⟨g,0,none⟩) c∧Pr w w':=by
  refine (nodesOf_nil l ks oa cap w h hk).mono ?_
  rintro e w' ⟨g,c,rfl,ho,hb⟩
  obtain ⟨o1,cp,hv,hn⟩:=ho.nds
  rw [nds_length] at hv
  cases hv
  exact ⟨g,c,rfl,hn.any,hb⟩
end Go.Proofs.YtdbnfhpgmcjngacDoor
