/-
  NARROWER THAN 'FOR EVERY INPUT', by the rows' own cells (each row's printed sentence says how): TreeDoes: loops · TreeParts: loops · OrderDoes: loops · OrderBack: loops · OrderStands: loops · OrderPaths: loops · DistMetric: loops · DistBeneath: loops · DistDoes: loops · DistPairs: loops · DistBounds: loops.
  DERIVED. THE GIVEN ROWS OF THIS SEAT. 11 by the template 'for every input the law returns true; each argument reads behind the call as it read before'; 0 by the template 'total and deterministic' (their statements: YtdbnfhpgmcjngaaTotals.lean).
  GIVEN WITH THE SEED: the statements are not yours to turn. If you find one false, say at which input.
  Laid BY PROGRAM, IN A SANDBOX (cutbox-rows.mjs): the forced cells as the released guide's own fill.sh prints them over the translation c7c51d687b2dca83… (all of the seat's roots in one cut). By AI agents, Wed Nov 11 2026. No macro, syntax, notation, axiom, sorry.
-/
import Derived.Test.YtdbnfhpgmcjngaaChecked
import GoSem.Claim
import GoSem.ClaimJoined
import GoSem.ClaimMapViews
import Derived.JoinedTies
import Derived.KernelRfl
namespace Go.Proofs.Ytdbnfhpgmcjngaa
/- THE CELL 'sum', in the pinned program and in every row, IS THE sha256 OF THE DUMP (.gsa) THAT YtdbnfhpgmcjngaaProg.lean LOADS. Nothing in Lean hashes anything: it is a label: what it is worth is what the hold of that sum in a sandbox is worth. -/
noncomputable def Try.pinned : Pinned := { name := "ytdbnfhpgmcjngaa", sum := "c7c51d687b2dca83d8a524050d5bffe16ce81a9c00735bb589800a98126beb5c", checked := Try.checked }
namespace Rows
def none {H : Type} : Left H := { results := [], args := [] }

/-- 'pleachinglaw.TreeDoes': WHATEVER THE INPUT: true; the input reads as it did. -/
def treeDoesSpec : ChangeSpec := { name := "treeDoes", fn := fun _ => fun
  | [d1, d2, d3, d4] => { results := [.lit (.bool true)], args := [d1, d2, d3, d4] }
  | _ => none }
def treeDoesRow : OpenClaim := { program := "ytdbnfhpgmcjngaa", sum := "c7c51d687b2dca83d8a524050d5bffe16ce81a9c00735bb589800a98126beb5c", func := "pleaching/pleachinglaw.TreeDoes", spec := "treeDoes", unfollowed := true, recurses := true, loops := true, apart := false }
def TreeDoesSaid : Prop := treeDoesRow.holds Try.pinned (OpenSpec.ofChange treeDoesSpec)

/-- ITS FALSE NEIGHBOUR: 'it returns false'. Refute it at one input. -/
def treeDoesWrong : ChangeSpec := { name := "treeDoes", fn := fun _ => fun
  | [d1, d2, d3, d4] => { results := [.lit (.bool false)], args := [d1, d2, d3, d4] }
  | _ => none }
def TreeDoesWrongFalsely : Prop := treeDoesRow.holds Try.pinned (OpenSpec.ofChange treeDoesWrong)

/-- 'pleachinglaw.TreeParts': WHATEVER THE INPUT: true; the input reads as it did. -/
def treePartsSpec : ChangeSpec := { name := "treeParts", fn := fun _ => fun
  | [d1, d2, d3] => { results := [.lit (.bool true)], args := [d1, d2, d3] }
  | _ => none }
def treePartsRow : OpenClaim := { program := "ytdbnfhpgmcjngaa", sum := "c7c51d687b2dca83d8a524050d5bffe16ce81a9c00735bb589800a98126beb5c", func := "pleaching/pleachinglaw.TreeParts", spec := "treeParts", unfollowed := true, recurses := true, loops := true, apart := false }
def TreePartsSaid : Prop := treePartsRow.holds Try.pinned (OpenSpec.ofChange treePartsSpec)

/-- ITS FALSE NEIGHBOUR: 'it returns false'. Refute it at one input. -/
def treePartsWrong : ChangeSpec := { name := "treeParts", fn := fun _ => fun
  | [d1, d2, d3] => { results := [.lit (.bool false)], args := [d1, d2, d3] }
  | _ => none }
def TreePartsWrongFalsely : Prop := treePartsRow.holds Try.pinned (OpenSpec.ofChange treePartsWrong)

/-- 'pleachinglaw.OrderDoes': WHATEVER THE INPUT: true; the input reads as it did. -/
def orderDoesSpec : ChangeSpec := { name := "orderDoes", fn := fun _ => fun
  | [d1, d2, d3] => { results := [.lit (.bool true)], args := [d1, d2, d3] }
  | _ => none }
def orderDoesRow : OpenClaim := { program := "ytdbnfhpgmcjngaa", sum := "c7c51d687b2dca83d8a524050d5bffe16ce81a9c00735bb589800a98126beb5c", func := "pleaching/pleachinglaw.OrderDoes", spec := "orderDoes", unfollowed := true, recurses := true, loops := true, apart := false }
def OrderDoesSaid : Prop := orderDoesRow.holds Try.pinned (OpenSpec.ofChange orderDoesSpec)

/-- ITS FALSE NEIGHBOUR: 'it returns false'. Refute it at one input. -/
def orderDoesWrong : ChangeSpec := { name := "orderDoes", fn := fun _ => fun
  | [d1, d2, d3] => { results := [.lit (.bool false)], args := [d1, d2, d3] }
  | _ => none }
def OrderDoesWrongFalsely : Prop := orderDoesRow.holds Try.pinned (OpenSpec.ofChange orderDoesWrong)

/-- 'pleachinglaw.OrderBack': WHATEVER THE INPUT: true; the input reads as it did. -/
def orderBackSpec : ChangeSpec := { name := "orderBack", fn := fun _ => fun
  | [d1, d2] => { results := [.lit (.bool true)], args := [d1, d2] }
  | _ => none }
def orderBackRow : OpenClaim := { program := "ytdbnfhpgmcjngaa", sum := "c7c51d687b2dca83d8a524050d5bffe16ce81a9c00735bb589800a98126beb5c", func := "pleaching/pleachinglaw.OrderBack", spec := "orderBack", unfollowed := true, recurses := true, loops := true, apart := false }
def OrderBackSaid : Prop := orderBackRow.holds Try.pinned (OpenSpec.ofChange orderBackSpec)

/-- ITS FALSE NEIGHBOUR: 'it returns false'. Refute it at one input. -/
def orderBackWrong : ChangeSpec := { name := "orderBack", fn := fun _ => fun
  | [d1, d2] => { results := [.lit (.bool false)], args := [d1, d2] }
  | _ => none }
def OrderBackWrongFalsely : Prop := orderBackRow.holds Try.pinned (OpenSpec.ofChange orderBackWrong)

/-- 'pleachinglaw.OrderStands': WHATEVER THE INPUT: true; the input reads as it did. -/
def orderStandsSpec : ChangeSpec := { name := "orderStands", fn := fun _ => fun
  | [d1, d2] => { results := [.lit (.bool true)], args := [d1, d2] }
  | _ => none }
def orderStandsRow : OpenClaim := { program := "ytdbnfhpgmcjngaa", sum := "c7c51d687b2dca83d8a524050d5bffe16ce81a9c00735bb589800a98126beb5c", func := "pleaching/pleachinglaw.OrderStands", spec := "orderStands", unfollowed := true, recurses := true, loops := true, apart := false }
def OrderStandsSaid : Prop := orderStandsRow.holds Try.pinned (OpenSpec.ofChange orderStandsSpec)

/-- ITS FALSE NEIGHBOUR: 'it returns false'. Refute it at one input. -/
def orderStandsWrong : ChangeSpec := { name := "orderStands", fn := fun _ => fun
  | [d1, d2] => { results := [.lit (.bool false)], args := [d1, d2] }
  | _ => none }
def OrderStandsWrongFalsely : Prop := orderStandsRow.holds Try.pinned (OpenSpec.ofChange orderStandsWrong)

/-- 'pleachinglaw.OrderPaths': WHATEVER THE INPUT: true; the input reads as it did. -/
def orderPathsSpec : ChangeSpec := { name := "orderPaths", fn := fun _ => fun
  | [d1, d2, d3] => { results := [.lit (.bool true)], args := [d1, d2, d3] }
  | _ => none }
def orderPathsRow : OpenClaim := { program := "ytdbnfhpgmcjngaa", sum := "c7c51d687b2dca83d8a524050d5bffe16ce81a9c00735bb589800a98126beb5c", func := "pleaching/pleachinglaw.OrderPaths", spec := "orderPaths", unfollowed := true, recurses := true, loops := true, apart := false }
def OrderPathsSaid : Prop := orderPathsRow.holds Try.pinned (OpenSpec.ofChange orderPathsSpec)

/-- ITS FALSE NEIGHBOUR: 'it returns false'. Refute it at one input. -/
def orderPathsWrong : ChangeSpec := { name := "orderPaths", fn := fun _ => fun
  | [d1, d2, d3] => { results := [.lit (.bool false)], args := [d1, d2, d3] }
  | _ => none }
def OrderPathsWrongFalsely : Prop := orderPathsRow.holds Try.pinned (OpenSpec.ofChange orderPathsWrong)

/-- 'pleachinglaw.DistMetric': WHATEVER THE INPUT: true; the input reads as it did. -/
def distMetricSpec : ChangeSpec := { name := "distMetric", fn := fun _ => fun
  | [d1, d2, d3] => { results := [.lit (.bool true)], args := [d1, d2, d3] }
  | _ => none }
def distMetricRow : OpenClaim := { program := "ytdbnfhpgmcjngaa", sum := "c7c51d687b2dca83d8a524050d5bffe16ce81a9c00735bb589800a98126beb5c", func := "pleaching/pleachinglaw.DistMetric", spec := "distMetric", unfollowed := true, recurses := true, loops := true, apart := false }
def DistMetricSaid : Prop := distMetricRow.holds Try.pinned (OpenSpec.ofChange distMetricSpec)

/-- ITS FALSE NEIGHBOUR: 'it returns false'. Refute it at one input. -/
def distMetricWrong : ChangeSpec := { name := "distMetric", fn := fun _ => fun
  | [d1, d2, d3] => { results := [.lit (.bool false)], args := [d1, d2, d3] }
  | _ => none }
def DistMetricWrongFalsely : Prop := distMetricRow.holds Try.pinned (OpenSpec.ofChange distMetricWrong)

/-- 'pleachinglaw.DistBeneath': WHATEVER THE INPUT: true; the input reads as it did. -/
def distBeneathSpec : ChangeSpec := { name := "distBeneath", fn := fun _ => fun
  | [d1, d2, d3] => { results := [.lit (.bool true)], args := [d1, d2, d3] }
  | _ => none }
def distBeneathRow : OpenClaim := { program := "ytdbnfhpgmcjngaa", sum := "c7c51d687b2dca83d8a524050d5bffe16ce81a9c00735bb589800a98126beb5c", func := "pleaching/pleachinglaw.DistBeneath", spec := "distBeneath", unfollowed := true, recurses := true, loops := true, apart := false }
def DistBeneathSaid : Prop := distBeneathRow.holds Try.pinned (OpenSpec.ofChange distBeneathSpec)

/-- ITS FALSE NEIGHBOUR: 'it returns false'. Refute it at one input. -/
def distBeneathWrong : ChangeSpec := { name := "distBeneath", fn := fun _ => fun
  | [d1, d2, d3] => { results := [.lit (.bool false)], args := [d1, d2, d3] }
  | _ => none }
def DistBeneathWrongFalsely : Prop := distBeneathRow.holds Try.pinned (OpenSpec.ofChange distBeneathWrong)

/-- 'pleachinglaw.DistDoes': WHATEVER THE INPUT: true; the input reads as it did. -/
def distDoesSpec : ChangeSpec := { name := "distDoes", fn := fun _ => fun
  | [d1, d2, d3, d4] => { results := [.lit (.bool true)], args := [d1, d2, d3, d4] }
  | _ => none }
def distDoesRow : OpenClaim := { program := "ytdbnfhpgmcjngaa", sum := "c7c51d687b2dca83d8a524050d5bffe16ce81a9c00735bb589800a98126beb5c", func := "pleaching/pleachinglaw.DistDoes", spec := "distDoes", unfollowed := true, recurses := true, loops := true, apart := false }
def DistDoesSaid : Prop := distDoesRow.holds Try.pinned (OpenSpec.ofChange distDoesSpec)

/-- ITS FALSE NEIGHBOUR: 'it returns false'. Refute it at one input. -/
def distDoesWrong : ChangeSpec := { name := "distDoes", fn := fun _ => fun
  | [d1, d2, d3, d4] => { results := [.lit (.bool false)], args := [d1, d2, d3, d4] }
  | _ => none }
def DistDoesWrongFalsely : Prop := distDoesRow.holds Try.pinned (OpenSpec.ofChange distDoesWrong)

/-- 'pleachinglaw.DistPairs': WHATEVER THE INPUT: true; the input reads as it did. -/
def distPairsSpec : ChangeSpec := { name := "distPairs", fn := fun _ => fun
  | [d1, d2] => { results := [.lit (.bool true)], args := [d1, d2] }
  | _ => none }
def distPairsRow : OpenClaim := { program := "ytdbnfhpgmcjngaa", sum := "c7c51d687b2dca83d8a524050d5bffe16ce81a9c00735bb589800a98126beb5c", func := "pleaching/pleachinglaw.DistPairs", spec := "distPairs", unfollowed := true, recurses := true, loops := true, apart := false }
def DistPairsSaid : Prop := distPairsRow.holds Try.pinned (OpenSpec.ofChange distPairsSpec)

/-- ITS FALSE NEIGHBOUR: 'it returns false'. Refute it at one input. -/
def distPairsWrong : ChangeSpec := { name := "distPairs", fn := fun _ => fun
  | [d1, d2] => { results := [.lit (.bool false)], args := [d1, d2] }
  | _ => none }
def DistPairsWrongFalsely : Prop := distPairsRow.holds Try.pinned (OpenSpec.ofChange distPairsWrong)

/-- 'pleachinglaw.DistBounds': WHATEVER THE INPUT: true; the input reads as it did. -/
def distBoundsSpec : ChangeSpec := { name := "distBounds", fn := fun _ => fun
  | [d1, d2] => { results := [.lit (.bool true)], args := [d1, d2] }
  | _ => none }
def distBoundsRow : OpenClaim := { program := "ytdbnfhpgmcjngaa", sum := "c7c51d687b2dca83d8a524050d5bffe16ce81a9c00735bb589800a98126beb5c", func := "pleaching/pleachinglaw.DistBounds", spec := "distBounds", unfollowed := true, recurses := true, loops := true, apart := false }
def DistBoundsSaid : Prop := distBoundsRow.holds Try.pinned (OpenSpec.ofChange distBoundsSpec)

/-- ITS FALSE NEIGHBOUR: 'it returns false'. Refute it at one input. -/
def distBoundsWrong : ChangeSpec := { name := "distBounds", fn := fun _ => fun
  | [d1, d2] => { results := [.lit (.bool false)], args := [d1, d2] }
  | _ => none }
def DistBoundsWrongFalsely : Prop := distBoundsRow.holds Try.pinned (OpenSpec.ofChange distBoundsWrong)

/- THE SECOND FORM. 'bulk': how many values and letters a reading holds, each counted each time it is reached (what is shared counts as often as it is met; a slice's spare places count too). A statement '..UptoSaid' is the law's where the arguments, and the package variables that the reading takes, are together of bulk at most 1048576: NARROWER than '..Said'. Prove '..Said' where nothing that the law and all that it calls make is longer than what came in: it says more and counts as full. Else prove '..UptoSaid'. A law counts once. -/
mutual
def uptoBulk {H : Type} : DataW H → Nat
  | .lit (.string bytes) => bytes.length + 1
  | .lit _ => 1
  | .nil => 1
  | .ptr d => uptoBulk d + 1
  | .slice elems spare => uptoBulkAll elems + uptoBulkAll spare + 1
  | .agg parts => uptoBulkAll parts + 1
  | .iface _ d => uptoBulk d + 1
  | .map entries => uptoBulkEntries entries + 1
  | .held _ => 1
def uptoBulkAll {H : Type} : List (DataW H) → Nat
  | [] => 0
  | d :: r => uptoBulk d + uptoBulkAll r
def uptoBulkEntries {H : Type} : List (Lit × DataW H) → Nat
  | [] => 0
  | x :: r => uptoBulkEntry x + uptoBulkEntries r
def uptoBulkEntry {H : Type} : Lit × DataW H → Nat
  | (.string bytes, d) => bytes.length + uptoBulk d + 1
  | (_, d) => uptoBulk d + 1
 end
def uptoSmall : (H : Type) → List (DataW H) → Bool := fun _ ds => decide (uptoBulkAll ds ≤ 1048576)
def OpenSpec.upto (s : _root_.Go.ChangeSpec) : _root_.Go.OpenSpec := { _root_.Go.OpenSpec.ofChange s with cond := some uptoSmall }

/-- 'pleachinglaw.TreeDoes', WHERE WHAT IT READS IS OF BULK AT MOST 1048576: true; the input reads as it did. -/
def treeDoesUptoRow : OpenClaim := { program := "ytdbnfhpgmcjngaa", sum := "c7c51d687b2dca83d8a524050d5bffe16ce81a9c00735bb589800a98126beb5c", func := "pleaching/pleachinglaw.TreeDoes", spec := "treeDoes", unfollowed := true, recurses := true, loops := true, apart := false, narrowed := true }
def TreeDoesUptoSaid : Prop := treeDoesUptoRow.holds Try.pinned (OpenSpec.upto treeDoesSpec)

/-- 'pleachinglaw.TreeParts', WHERE WHAT IT READS IS OF BULK AT MOST 1048576: true; the input reads as it did. -/
def treePartsUptoRow : OpenClaim := { program := "ytdbnfhpgmcjngaa", sum := "c7c51d687b2dca83d8a524050d5bffe16ce81a9c00735bb589800a98126beb5c", func := "pleaching/pleachinglaw.TreeParts", spec := "treeParts", unfollowed := true, recurses := true, loops := true, apart := false, narrowed := true }
def TreePartsUptoSaid : Prop := treePartsUptoRow.holds Try.pinned (OpenSpec.upto treePartsSpec)

/-- 'pleachinglaw.OrderDoes', WHERE WHAT IT READS IS OF BULK AT MOST 1048576: true; the input reads as it did. -/
def orderDoesUptoRow : OpenClaim := { program := "ytdbnfhpgmcjngaa", sum := "c7c51d687b2dca83d8a524050d5bffe16ce81a9c00735bb589800a98126beb5c", func := "pleaching/pleachinglaw.OrderDoes", spec := "orderDoes", unfollowed := true, recurses := true, loops := true, apart := false, narrowed := true }
def OrderDoesUptoSaid : Prop := orderDoesUptoRow.holds Try.pinned (OpenSpec.upto orderDoesSpec)

/-- 'pleachinglaw.OrderBack', WHERE WHAT IT READS IS OF BULK AT MOST 1048576: true; the input reads as it did. -/
def orderBackUptoRow : OpenClaim := { program := "ytdbnfhpgmcjngaa", sum := "c7c51d687b2dca83d8a524050d5bffe16ce81a9c00735bb589800a98126beb5c", func := "pleaching/pleachinglaw.OrderBack", spec := "orderBack", unfollowed := true, recurses := true, loops := true, apart := false, narrowed := true }
def OrderBackUptoSaid : Prop := orderBackUptoRow.holds Try.pinned (OpenSpec.upto orderBackSpec)

/-- 'pleachinglaw.OrderStands', WHERE WHAT IT READS IS OF BULK AT MOST 1048576: true; the input reads as it did. -/
def orderStandsUptoRow : OpenClaim := { program := "ytdbnfhpgmcjngaa", sum := "c7c51d687b2dca83d8a524050d5bffe16ce81a9c00735bb589800a98126beb5c", func := "pleaching/pleachinglaw.OrderStands", spec := "orderStands", unfollowed := true, recurses := true, loops := true, apart := false, narrowed := true }
def OrderStandsUptoSaid : Prop := orderStandsUptoRow.holds Try.pinned (OpenSpec.upto orderStandsSpec)

/-- 'pleachinglaw.OrderPaths', WHERE WHAT IT READS IS OF BULK AT MOST 1048576: true; the input reads as it did. -/
def orderPathsUptoRow : OpenClaim := { program := "ytdbnfhpgmcjngaa", sum := "c7c51d687b2dca83d8a524050d5bffe16ce81a9c00735bb589800a98126beb5c", func := "pleaching/pleachinglaw.OrderPaths", spec := "orderPaths", unfollowed := true, recurses := true, loops := true, apart := false, narrowed := true }
def OrderPathsUptoSaid : Prop := orderPathsUptoRow.holds Try.pinned (OpenSpec.upto orderPathsSpec)

/-- 'pleachinglaw.DistMetric', WHERE WHAT IT READS IS OF BULK AT MOST 1048576: true; the input reads as it did. -/
def distMetricUptoRow : OpenClaim := { program := "ytdbnfhpgmcjngaa", sum := "c7c51d687b2dca83d8a524050d5bffe16ce81a9c00735bb589800a98126beb5c", func := "pleaching/pleachinglaw.DistMetric", spec := "distMetric", unfollowed := true, recurses := true, loops := true, apart := false, narrowed := true }
def DistMetricUptoSaid : Prop := distMetricUptoRow.holds Try.pinned (OpenSpec.upto distMetricSpec)

/-- 'pleachinglaw.DistBeneath', WHERE WHAT IT READS IS OF BULK AT MOST 1048576: true; the input reads as it did. -/
def distBeneathUptoRow : OpenClaim := { program := "ytdbnfhpgmcjngaa", sum := "c7c51d687b2dca83d8a524050d5bffe16ce81a9c00735bb589800a98126beb5c", func := "pleaching/pleachinglaw.DistBeneath", spec := "distBeneath", unfollowed := true, recurses := true, loops := true, apart := false, narrowed := true }
def DistBeneathUptoSaid : Prop := distBeneathUptoRow.holds Try.pinned (OpenSpec.upto distBeneathSpec)

/-- 'pleachinglaw.DistDoes', WHERE WHAT IT READS IS OF BULK AT MOST 1048576: true; the input reads as it did. -/
def distDoesUptoRow : OpenClaim := { program := "ytdbnfhpgmcjngaa", sum := "c7c51d687b2dca83d8a524050d5bffe16ce81a9c00735bb589800a98126beb5c", func := "pleaching/pleachinglaw.DistDoes", spec := "distDoes", unfollowed := true, recurses := true, loops := true, apart := false, narrowed := true }
def DistDoesUptoSaid : Prop := distDoesUptoRow.holds Try.pinned (OpenSpec.upto distDoesSpec)

/-- 'pleachinglaw.DistPairs', WHERE WHAT IT READS IS OF BULK AT MOST 1048576: true; the input reads as it did. -/
def distPairsUptoRow : OpenClaim := { program := "ytdbnfhpgmcjngaa", sum := "c7c51d687b2dca83d8a524050d5bffe16ce81a9c00735bb589800a98126beb5c", func := "pleaching/pleachinglaw.DistPairs", spec := "distPairs", unfollowed := true, recurses := true, loops := true, apart := false, narrowed := true }
def DistPairsUptoSaid : Prop := distPairsUptoRow.holds Try.pinned (OpenSpec.upto distPairsSpec)

/-- 'pleachinglaw.DistBounds', WHERE WHAT IT READS IS OF BULK AT MOST 1048576: true; the input reads as it did. -/
def distBoundsUptoRow : OpenClaim := { program := "ytdbnfhpgmcjngaa", sum := "c7c51d687b2dca83d8a524050d5bffe16ce81a9c00735bb589800a98126beb5c", func := "pleaching/pleachinglaw.DistBounds", spec := "distBounds", unfollowed := true, recurses := true, loops := true, apart := false, narrowed := true }
def DistBoundsUptoSaid : Prop := distBoundsUptoRow.holds Try.pinned (OpenSpec.upto distBoundsSpec)

end Rows
end Go.Proofs.Ytdbnfhpgmcjngaa
