/- A slice of trees of one's own: it grows by append; what stands beneath its trees is elsewhere. -/
import Derived.Test.YtdbnfhpgmcjngadDoorMem
import Derived.Test.YtdbnfhpgmcjngadDoorProg
namespace Go.Proofs.YtdbnfhpgmcjngadDoor
open Go Go.RowKit
/-- From base on, but not the slice's own block. -/
abbrev Apart (base : Nat) (v : Value) : Nat → Prop := fun k => base ≤ k ∧ v.ownBlock ≠ some k
theorem ownsRow_mono {w : World} {b b' e size : Nat} {v : Value} {n : Nat} {xs : List Value} (h : w.ownsRow b e size v n xs) (hb : b' ≤ b) : w.ownsRow b' e size v n xs := by
  refine ⟨h.1, ?_⟩
  rcases h.2 with h | ⟨g, cap, cur, h1, h2, h3⟩
  · exact .inl h
  · exact .inr ⟨g, cap, cur, h1, by omega, h3⟩
theorem TreeV.one {S : Nat → Prop} {w : World} {t : Tr} {vl vk : Value} (h : TreeV S w t vl vk) : vl.oneCell' = true ∧ vk.oneCell' = true := by
  cases t with
  | node l ks => obtain ⟨⟨rfl, _⟩, oa, cap, rfl, _⟩ := treeV_iff.1 h; exact ⟨rfl, rfl⟩

section
variable {ops : Array Oper} {o : Oper} {a : Act} {w : World} {rest : List Oper} {Q : Exit → Act → World → Prop}
end
end Go.Proofs.YtdbnfhpgmcjngadDoor
