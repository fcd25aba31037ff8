/- The law ScriptMakes: its walk; and Diff of what is no tree. -/
import Derived.Test.YtdbnfhpgmcjngacGreatByf
import Derived.Deep.DeepCutAuto
namespace Go.Proofs.YtdbnfhpgmcjngacGreat
open Go Go.RowKit
theorem nameC_few (xs ys:List Nd) (L:List (Nat × Nat)):nameC xs ys L≤L.length:=by
  induction L with
  | nil=>simp [nameC]
  | cons p L ih =>
    have h:=lc_le (labN xs p.1) (labN ys p.2)
    simp only [nameC,List.map_cons,List.foldr_cons,List.length_cons] at ih ⊢
    omega
theorem cost_few {a b:Tr} (ha:fault a=0) (hb:fault b=0):costT a b≤80:=by
  have h1:=(bestT_good a b).2.2
  have h2:=nameC_few (nds a) (nds b) (bestT a b)
  have h3:=(fault_zero.1 ha).1
  have h4:=(fault_zero.1 hb).1
  omega
end Go.Proofs.YtdbnfhpgmcjngacGreat
