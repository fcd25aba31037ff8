/- The law PatchBack: its walk. -/
import Derived.Test.YtdbnfhpgmcjngadGreatDoorPwm
namespace Go.Proofs.YtdbnfhpgmcjngadGreatDoor
open Go Go.RowKit
theorem line_few {d:Dee} (h:lineC d=0) (hp:d.path.length≤60) (hl:d.lab.size≤100):(lineT d).length≤2000:=by
  obtain ⟨h0,hpp,ha,hm0,hm1⟩:=lineC_zero h
  have hk:=(dfault_zero.1 h0).1
  have h1:=pathT_le d.path (fun x hx=>by have:=hpp x hx;omega)
  have h2:=Lib.itoa_length_le d.pos (by omega) (by omega)
  have h3:=Lib.itoa_length_le d.many (by omega) (by omega)
  have h4:d.lab.data.toList.length=d.lab.size:=sizeL _
  rcases (show d.kind=1∨d.kind=2∨d.kind=3 by omega) with h | h | h
  · rw [line1 h];simp only [List.length_append,List.length_cons,List.length_nil];omega
  · rw [line2 h];simp only [List.length_append,List.length_cons,List.length_nil];omega
  · rw [line3 h];simp only [List.length_append,List.length_cons,List.length_nil];omega
theorem ended_few {ds:List Dee} (h:∀ d∈ds,(lineT d).length≤2000):(ended (ds.map lineT)).length≤2001 * ds.length:=by
  induction ds with
  | nil=>simp [ended]
  | cons d r ih =>
    have h1:=h d (by simp)
    have h2:=ih (fun x hx=>h x (by simp [hx]))
    simp only [List.map_cons,ended,List.length_append,List.length_cons];omega
end Go.Proofs.YtdbnfhpgmcjngadGreatDoor
