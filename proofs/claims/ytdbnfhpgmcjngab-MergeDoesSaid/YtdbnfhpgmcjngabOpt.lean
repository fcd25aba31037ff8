/- What comes in is read: trees. -/
import Derived.Test.YtdbnfhpgmcjngabOpen
namespace Go.Proofs.Ytdbnfhpgmcjngab
open Go Go.RowKit Go.ChangeShapes Go.WideShapes Go.ChangeAt

section
variable {H : Type} {enc : TypeId × Value → H} {w : World} {spare : Nat → Bool} {held : Bool}
set_option maxRecDepth 100000 in
/-- A slice of trees that came in. -/
theorem open_trees {r : Reach} {b0 : Nat} {v : Value} {d : DataW H} {p : List MemPlace} (hv : Value.okWide Try.prog w r b0 22 v) (h : DataW.Trod enc Try.prog w 0 spare held 22 v d p) :
    ∃ (ts : List Tr) (oa : Option Addr) (cap : Nat), v = .slice oa ts.length cap ∧ Kids Any w ts oa cap ∧ True := by
  obtain ⟨a0, l0, c0, rfl⟩ := okWide_slice under_trees hv
  obtain ⟨fuel, h⟩ := h
  obtain ⟨ks, oa, cap, e, hk⟩ := (read_both fuel).1 fuel _ _ (Nat.le_refl _) h
  simp [Value.cells] at e
  obtain ⟨rfl, rfl, rfl⟩ := e
  exact ⟨ks, a0, c0, rfl, hk, trivial⟩
end
end Go.Proofs.Ytdbnfhpgmcjngab
