/- A region that draws its order, of reads and of calls that make memory of their own and tell what does not hang on it: one walk. -/
import Derived.Test.YtdbnfhpgmcjngadGreatDoorBqt
import Derived.Test.YtdbnfhpgmcjngadGreatDoorMem
namespace Go.Proofs.YtdbnfhpgmcjngadGreatDoor
open Go Go.RowKit
structure After (V:World) where
  w:World
  pr:Pr V w
instance (V:World):Nonempty (After V):=⟨⟨V,Pr.refl V⟩⟩
section
variable {P:Program}
theorem wp_region_after {id:Nat} {Q:Exit→Act→World→Prop} {a:Act} {V:World} {l:List Oper} (hm:P.follows .mixedOrders=true) (hB:Region.lexB .any l.toArray=true)
    (h:wpQuiet P l.toArray (fun w'=>∃ x:After V,w'=x.w) (fun a'=>∀ w',(∃ x:After V,w'=x.w)→Q .normal a' w') l a):(Code.region id l.toArray true).wp P Q a V :=
  wp_region_quiet (C:=fun w'=>∃ x:After V,w'=x.w) hm hB ⟨⟨V.drew,Pr.drew V⟩,rfl⟩ (by simpa using h)
theorem After.cell {V:World} {b o:Nat} {v:Value} (h:V.cell? ⟨b,o,none⟩=some v):∀ x:After V,x.w.cell? ⟨b,o,none⟩=some v:=fun x=>x.pr.cell h
theorem After.call {V:World} {f:FuncId} {args:Array Value} {v:Value} (h:∀ W',Pr V W'→Calls P f args W' fun e w'=>e=.returned v∧Pr W' w') :
    ∀ x:After V,Calls P f args x.w fun e w''=>e=.returned v∧∃ y:After V,w''=y.w:=fun x=>(h x.w x.pr).mono fun _ w'' ⟨he,hp⟩=>⟨he,⟨w'',x.pr.trans hp⟩,rfl⟩
end
end Go.Proofs.YtdbnfhpgmcjngadGreatDoor
