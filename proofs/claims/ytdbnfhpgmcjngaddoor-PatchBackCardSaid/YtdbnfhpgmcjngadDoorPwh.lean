/- Walks: a line's deed; the document's. -/
import Derived.Test.YtdbnfhpgmcjngadDoorPwg
namespace Go.Proofs.YtdbnfhpgmcjngadDoor
open Go Go.RowKit

def map3N (x : List UInt8) : Nat := if x = wName then 3 else if x = wDelete then 2 else if x = wInsert then 5 else 0
theorem map3_bad (ps : List (List UInt8)) (h : 0 < ps.length) (h1 : ¬ (ps[0] = wName ∧ ps.length = 3)) (h2 : ¬ (ps[0] = wDelete ∧ ps.length = 2)) (h3 : ¬ (ps[0] = wInsert ∧ ps.length = 5)) : deedW ps = (Dee.zero, 6) ∧ (map3N ps[0] = 0 ∨ ps.length ≠ map3N ps[0]) := by
  refine ⟨?_, ?_⟩
  · by_cases hl : 1 < ps.length
    · exact deedW_no hl h1 h2 h3
    · exact deedW_few (by omega)
  · unfold map3N
    split
    · next e => exact .inr fun e' => h1 ⟨e, e'⟩
    · split
      · next e => exact .inr fun e' => h2 ⟨e, e'⟩
      · split
        · next e => exact .inr fun e' => h3 ⟨e, e'⟩
        · exact .inl rfl
end Go.Proofs.YtdbnfhpgmcjngadDoor
