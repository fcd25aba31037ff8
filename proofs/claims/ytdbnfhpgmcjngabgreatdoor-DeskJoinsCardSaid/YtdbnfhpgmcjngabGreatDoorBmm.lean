/- How the laws on merging begin. -/
import Derived.Test.YtdbnfhpgmcjngabGreatDoorBmk
import Derived.Test.YtdbnfhpgmcjngabGreatDoorBwe
namespace Go.Proofs.YtdbnfhpgmcjngabGreatDoor
open Go Go.RowKit
end Go.Proofs.YtdbnfhpgmcjngabGreatDoor
/- The law MergeClash: its walk. -/
namespace Go.Proofs.YtdbnfhpgmcjngabGreatDoor
open Go Go.RowKit
theorem fault_few (t:Tr):fault t≤3:=by
  unfold fault;split
  · omega
  · split
    · omega
    · split <;> omega
theorem merge_clash (o a b:Tr):((mergeT o a b).2.2=12→(mergeT o a b).1=Tr.zero∧(∃ u,o.at? (mergeT o a b).2.1=some u)∧a≠b∧a≠o∧b≠o) ∧
    ((mergeT o a b).2.2≠12→(mergeT o a b).2.1=[]∧((mergeT o a b).2.2=0→fault (mergeT o a b).1=0)):=by
  have f1:=fault_few o;have f2:=fault_few a;have f3:=fault_few b
  unfold mergeT
  split
  · exact ⟨fun h=>by simp only [] at h;omega,fun _=>⟨rfl,fun h=>absurd h (by assumption)⟩⟩
  · split
    · exact ⟨fun h=>by simp only [] at h;omega,fun _=>⟨rfl,fun h=>absurd h (by assumption)⟩⟩
    · split
      · exact ⟨fun h=>by simp only [] at h;omega,fun _=>⟨rfl,fun h=>absurd h (by assumption)⟩⟩
      · split
        · rename_i p hp
          exact ⟨fun _=>⟨rfl,mixT_path _ _ _ _ _ hp,mixT_clash (N:=99) hp⟩,fun h=>absurd rfl h⟩
        · rename_i t ht
          have f4:=fault_few t
          split
          · exact ⟨fun h=>by simp only [] at h;omega,fun _=>⟨rfl,fun h=>absurd h (by assumption)⟩⟩
          · rename_i h4
            exact ⟨fun h=>by simp at h,fun _=>⟨rfl,fun _=>by simpa using h4⟩⟩
end Go.Proofs.YtdbnfhpgmcjngabGreatDoor
