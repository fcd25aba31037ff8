/- Walks: pleachingref.marked: a tree whose labels are the numbers of its nodes. -/
import Derived.Test.YtdbnfhpgmcjngadGreatDoorIt
import Derived.Test.YtdbnfhpgmcjngadGreatDoorBwe
import Derived.Test.YtdbnfhpgmcjngadGreatDoorBpl
import Derived.Deep.DeepCutAuto
namespace Go.Proofs.YtdbnfhpgmcjngadGreatDoor
open Go Go.RowKit
theorem relF_append (f:Nat→ByteArray):∀ (xs ys:List Tr) (p:Nat),relF f p (xs ++ ys)=relF f p xs ++ relF f (p+Tr.szL xs) ys
  | [],ys,p=>by simp [relF]
  | x :: xs,ys,p=>by simp [relF,relF_append f xs ys,Nat.add_assoc]
theorem relF_length (f:Nat→ByteArray):∀ (ks:List Tr) (p:Nat),(relF f p ks).length=ks.length
  | [],p=>by rw [relF]
  | k :: ks,p=>by simp [relF,relF_length f ks]
end Go.Proofs.YtdbnfhpgmcjngadGreatDoor
