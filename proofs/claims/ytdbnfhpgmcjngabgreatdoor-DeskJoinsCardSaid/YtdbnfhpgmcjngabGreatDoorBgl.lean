/- A region that draws its order, of reads and of calls that make memory of their own and tell what does not hang on it: one walk. -/
import Derived.Test.YtdbnfhpgmcjngabGreatDoorBqt
import Derived.Test.YtdbnfhpgmcjngabGreatDoorMem
import Derived.Test.YtdbnfhpgmcjngabGreatDoorBwa
namespace Go.Proofs.YtdbnfhpgmcjngabGreatDoor
open Go Go.RowKit
structure After (V:World) where
  w:World
  pr:Pr V w
instance (V:World):Nonempty (After V):=⟨⟨V,Pr.refl V⟩⟩
section
variable {P:Program}
theorem wp_region_after {id:Nat} {Q:Exit→Act→World→Prop} {a:Act} {V:World} {l:List Oper} (hm:P.follows .mixedOrders=true) (hB:Region.lexB .any l.toArray=true)
    (h:wpQuiet P l.toArray (fun w'=>∃ x:After V,w'=x.w) (fun a'=>∀ w',(∃ x:After V,w'=x.w)→Q .normal a' w') l a):(Code.region id l.toArray true).wp P Q a V :=
  wp_region_quiet (C:=fun w'=>∃ x:After V,w'=x.w) hm hB ⟨⟨V.drew,Pr.drew V⟩,rfl⟩ (by simpa using h)
theorem wp_region_after_tail {id:Nat} {Q:Exit→Act→World→Prop} {a:Act} {V:World} {l:List Oper} (n:Nat) (hm:P.follows .mixedOrders=true) (hB:Region.lexTailB .any l.toArray n=true)
    (h:wpQuiet P l.toArray (fun w'=>∃ x:After V,w'=x.w) (fun a'=>∀ w',(∃ x:After V,w'=x.w)→wpList P l.toArray Q (l.drop n) a' w') (l.take n) a):(Code.region id l.toArray true).wp P Q a V:=by
  simp only [Region.lexTailB,Bool.and_eq_true,decide_eq_true_eq] at hB
  obtain ⟨⟨⟨⟨hsel,hn⟩,hs⟩,hc⟩,hlex⟩:=hB
  have hn':n < l.length:=by simpa using hn
  have htl:(l.take n).length=n:=by simp;omega
  have hdl:(l.drop n).length=l.toArray.size - n:=by simp
  have inv0:HeadInv .any l.toArray n (Array.replicate l.toArray.size false) :=
    ⟨by simp,fun j oj _ hl=>(by rw [getD_replicate_false] at hl;cases hl),fun t _ ht=>getD_in (by simpa using ht) (getD_replicate_false _ _)⟩
  have H:=wpAnyQL_lex (I:=HeadInv .any l.toArray n) (md:=.any) (g:=l.toArray.size - n) hsel (fun _ _ inv hi hin=>inv.set hi hin) (fun _ i inv hin hun t ht=>tail_waits hs hc hn inv _ i rfl hin hun t ht) (l.take n) 0 _ a (fun j hj=>by
    have hj':j < n:=by rw [htl] at hj;exact hj
    simp [hj']) (by simpa using htl) inv0 (by rw [htl];exact hlex) h
  refine wp_region_any hm ?_
  have:=wpAny_of_headQ (Q':=Q) (g:=l.toArray.size - n) (fun listed a' w' hw' hL=>by
    have:=wpAny_of_seq (md:=.any) (Q':=Q) (l.drop n) n listed a' w' (fun j=>by simp [List.getElem?_drop]) (by rw [hdl];exact hL.1) (hL.2 w' hw')
    rwa [hdl] at this) _ _ _ V.drew ⟨⟨V.drew,Pr.drew V⟩,rfl⟩ H
  rw [htl,show n+(l.toArray.size - n)=l.toArray.size by omega] at this
  exact this
theorem After.cell {V:World} {b o:Nat} {v:Value} (h:V.cell? ⟨b,o,none⟩=some v):∀ x:After V,x.w.cell? ⟨b,o,none⟩=some v:=fun x=>x.pr.cell h
theorem After.call {V:World} {f:FuncId} {args:Array Value} {v:Value} (h:∀ W',Pr V W'→Calls P f args W' fun e w'=>e=.returned v∧Pr W' w') :
    ∀ x:After V,Calls P f args x.w fun e w''=>e=.returned v∧∃ y:After V,w''=y.w:=fun x=>(h x.w x.pr).mono fun _ w'' ⟨he,hp⟩=>⟨he,⟨w'',x.pr.trans hp⟩,rfl⟩
end
end Go.Proofs.YtdbnfhpgmcjngabGreatDoor
/- Walks: the laws' greatList. -/
namespace Go.Proofs.YtdbnfhpgmcjngabGreatDoor
open Go Go.RowKit
end Go.Proofs.YtdbnfhpgmcjngabGreatDoor
