/- A book beside a list of its trees. -/
import Derived.Test.YtdbnfhpgmcjngabGreatDoorBzt
import Derived.Test.YtdbnfhpgmcjngabGreatDoorBgl
import Derived.Test.YtdbnfhpgmcjngabGreatDoorBwe
namespace Go.Proofs.YtdbnfhpgmcjngabGreatDoor
open Go Go.RowKit
theorem BookOk.chg {X X' Y:Nat→Prop} {w w':World} {B:Nat} {v:Value} {ts:List Tr} (h:BookOk X w B v ts) (hc:Chg Y w w') (hY:∀ k,Y k→X k∨w.heap.size≤k) (hX:∀ k,X' k→X k∨w.heap.size≤k):BookOk X' w' B v ts:=by
  obtain ⟨⟨l,ks,oa,cap,h1,h2,h3,h4⟩,⟨ys,g1,g2⟩,hf,hn,ho⟩:=h
  have hB:=blk_lt h1
  have hk:∀ k,k < w.heap.size→¬ X k→w'.heap[k]? = w.heap[k]? ∧ ¬ X' k:=fun k hl hx=>⟨hc.block k hl (fun hy=>by rcases hY k hy with h | h;exact hx h;omega),fun hx'=>by rcases hX k hx' with h | h;exact hx h;omega⟩
  refine ⟨⟨l,ks,oa,cap,by rw [(hk B hB ho.1).1];exact h1,h2,h3,h4.carry fun k hS hl=>⟨(hk k hl hS.2).1,hS.1,(hk k hl hS.2).2⟩⟩,
    ⟨ys,ownsRow_kept g1 (fun k hk'=>(hk k (g1.lt k hk').2 (ho.2 k hk')).1),g2.carry fun k hS hl=>⟨(hk k hl hS.2).1,hS.1,(hk k hl hS.2).2⟩⟩,hf,hn,(hk B hB ho.1).2,fun k hk'=>(hk k (g1.lt k hk').2 (ho.2 k hk')).2⟩
theorem BookOk.lt {X:Nat→Prop} {w:World} {B:Nat} {v:Value} {ts:List Tr} (h:BookOk X w B v ts):B < w.heap.size∧∀ k,v.ownBlock=some k→B+1≤k∧k < w.heap.size:=by
  obtain ⟨⟨l,ks,oa,cap,h1,_⟩,⟨ys,g1,g2⟩,_,_,_⟩:=h
  exact ⟨blk_lt h1,g1.lt⟩
section
variable {X:Nat→Prop} {base:Nat} {w w':World} {B:Nat} {v v4:Value} {tb ti:List Tr}
end
section
variable {ops:Array Oper} {o:Oper} {a:Act} {w:World} {rest:List Oper} {Q:Exit→Act→World→Prop}
end
end Go.Proofs.YtdbnfhpgmcjngabGreatDoor
/- A book of the first trees of others; plain. -/
namespace Go.Proofs.YtdbnfhpgmcjngabGreatDoor
section
variable {p t:List Tr}
end
end Go.Proofs.YtdbnfhpgmcjngabGreatDoor
/- Walks: the laws' books. -/
namespace Go.Proofs.YtdbnfhpgmcjngabGreatDoor
open Go Go.RowKit
end Go.Proofs.YtdbnfhpgmcjngabGreatDoor
