/-
  NARROWER THAN 'FOR EVERY INPUT', by the rows' own cells (each row's printed sentence says how): TextDoes: loops · TextBack: loops · TextApart: loops · DeedBack: loops · DeedOne: loops · DeedDoes: loops · MergeDoes: loops · MergeSides: loops · MergeSwaps: loops · MergeCommon: loops · MergeApart: loops.
  DERIVED. THE GIVEN ROWS OF THIS SEAT. 11 by the template 'for every input the law returns true; each argument reads behind the call as it read before'; 0 by the template 'total and deterministic' (their statements: YtdbnfhpgmcjngabTotals.lean).
  GIVEN WITH THE SEED: the statements are not yours to turn. If you find one false, say at which input.
  Laid BY PROGRAM, IN A SANDBOX (cutbox-rows.mjs): the forced cells as the released guide's own fill.sh prints them over the translation c24e9576f726caca… (all of the seat's roots in one cut). By AI agents, Wed Nov 11 2026. No macro, syntax, notation, axiom, sorry.
-/
import Derived.Test.YtdbnfhpgmcjngabChecked
import GoSem.Claim
import GoSem.ClaimJoined
import GoSem.ClaimMapViews
import Derived.JoinedTies
import Derived.KernelRfl
namespace Go.Proofs.Ytdbnfhpgmcjngab
/- THE CELL 'sum', in the pinned program and in every row, IS THE sha256 OF THE DUMP (.gsa) THAT YtdbnfhpgmcjngabProg.lean LOADS. Nothing in Lean hashes anything: it is a label: what it is worth is what the hold of that sum in a sandbox is worth. -/
noncomputable def Try.pinned : Pinned := { name := "ytdbnfhpgmcjngab", sum := "c24e9576f726caca2864a0de97f187f641980aee2db06e0d40b0e7e5f70a4c53", checked := Try.checked }
namespace Rows
def none {H : Type} : Left H := { results := [], args := [] }

/-- 'pleachinglaw.TextDoes': WHATEVER THE INPUT: true; the input reads as it did. -/
def textDoesSpec : ChangeSpec := { name := "textDoes", fn := fun _ => fun
  | [d1, d2] => { results := [.lit (.bool true)], args := [d1, d2] }
  | _ => none }
def textDoesRow : OpenClaim := { program := "ytdbnfhpgmcjngab", sum := "c24e9576f726caca2864a0de97f187f641980aee2db06e0d40b0e7e5f70a4c53", func := "pleaching/pleachinglaw.TextDoes", spec := "textDoes", inPlace := ["internal/abi.NoEscape"], unfollowed := true, recurses := true, loops := true, apart := false }
def TextDoesSaid : Prop := textDoesRow.holds Try.pinned (OpenSpec.ofChange textDoesSpec)

/-- ITS FALSE NEIGHBOUR: 'it returns false'. Refute it at one input. -/
def textDoesWrong : ChangeSpec := { name := "textDoes", fn := fun _ => fun
  | [d1, d2] => { results := [.lit (.bool false)], args := [d1, d2] }
  | _ => none }
def TextDoesWrongFalsely : Prop := textDoesRow.holds Try.pinned (OpenSpec.ofChange textDoesWrong)

/-- 'pleachinglaw.TextBack': WHATEVER THE INPUT: true; the input reads as it did. -/
def textBackSpec : ChangeSpec := { name := "textBack", fn := fun _ => fun
  | [d1, d2] => { results := [.lit (.bool true)], args := [d1, d2] }
  | _ => none }
def textBackRow : OpenClaim := { program := "ytdbnfhpgmcjngab", sum := "c24e9576f726caca2864a0de97f187f641980aee2db06e0d40b0e7e5f70a4c53", func := "pleaching/pleachinglaw.TextBack", spec := "textBack", inPlace := ["internal/abi.NoEscape"], unfollowed := true, recurses := true, loops := true, apart := false }
def TextBackSaid : Prop := textBackRow.holds Try.pinned (OpenSpec.ofChange textBackSpec)

/-- ITS FALSE NEIGHBOUR: 'it returns false'. Refute it at one input. -/
def textBackWrong : ChangeSpec := { name := "textBack", fn := fun _ => fun
  | [d1, d2] => { results := [.lit (.bool false)], args := [d1, d2] }
  | _ => none }
def TextBackWrongFalsely : Prop := textBackRow.holds Try.pinned (OpenSpec.ofChange textBackWrong)

/-- 'pleachinglaw.TextApart': WHATEVER THE INPUT: true; the input reads as it did. -/
def textApartSpec : ChangeSpec := { name := "textApart", fn := fun _ => fun
  | [d1, d2] => { results := [.lit (.bool true)], args := [d1, d2] }
  | _ => none }
def textApartRow : OpenClaim := { program := "ytdbnfhpgmcjngab", sum := "c24e9576f726caca2864a0de97f187f641980aee2db06e0d40b0e7e5f70a4c53", func := "pleaching/pleachinglaw.TextApart", spec := "textApart", inPlace := ["internal/abi.NoEscape"], unfollowed := true, recurses := true, loops := true, apart := false }
def TextApartSaid : Prop := textApartRow.holds Try.pinned (OpenSpec.ofChange textApartSpec)

/-- ITS FALSE NEIGHBOUR: 'it returns false'. Refute it at one input. -/
def textApartWrong : ChangeSpec := { name := "textApart", fn := fun _ => fun
  | [d1, d2] => { results := [.lit (.bool false)], args := [d1, d2] }
  | _ => none }
def TextApartWrongFalsely : Prop := textApartRow.holds Try.pinned (OpenSpec.ofChange textApartWrong)

/-- 'pleachinglaw.DeedBack': WHATEVER THE INPUT: true; the input reads as it did. -/
def deedBackSpec : ChangeSpec := { name := "deedBack", fn := fun _ => fun
  | [d1, d2] => { results := [.lit (.bool true)], args := [d1, d2] }
  | _ => none }
def deedBackRow : OpenClaim := { program := "ytdbnfhpgmcjngab", sum := "c24e9576f726caca2864a0de97f187f641980aee2db06e0d40b0e7e5f70a4c53", func := "pleaching/pleachinglaw.DeedBack", spec := "deedBack", unfollowed := true, recurses := true, loops := true, apart := false }
def DeedBackSaid : Prop := deedBackRow.holds Try.pinned (OpenSpec.ofChange deedBackSpec)

/-- ITS FALSE NEIGHBOUR: 'it returns false'. Refute it at one input. -/
def deedBackWrong : ChangeSpec := { name := "deedBack", fn := fun _ => fun
  | [d1, d2] => { results := [.lit (.bool false)], args := [d1, d2] }
  | _ => none }
def DeedBackWrongFalsely : Prop := deedBackRow.holds Try.pinned (OpenSpec.ofChange deedBackWrong)

/-- 'pleachinglaw.DeedOne': WHATEVER THE INPUT: true; the input reads as it did. -/
def deedOneSpec : ChangeSpec := { name := "deedOne", fn := fun _ => fun
  | [d1, d2] => { results := [.lit (.bool true)], args := [d1, d2] }
  | _ => none }
def deedOneRow : OpenClaim := { program := "ytdbnfhpgmcjngab", sum := "c24e9576f726caca2864a0de97f187f641980aee2db06e0d40b0e7e5f70a4c53", func := "pleaching/pleachinglaw.DeedOne", spec := "deedOne", unfollowed := true, recurses := true, loops := true, apart := false }
def DeedOneSaid : Prop := deedOneRow.holds Try.pinned (OpenSpec.ofChange deedOneSpec)

/-- ITS FALSE NEIGHBOUR: 'it returns false'. Refute it at one input. -/
def deedOneWrong : ChangeSpec := { name := "deedOne", fn := fun _ => fun
  | [d1, d2] => { results := [.lit (.bool false)], args := [d1, d2] }
  | _ => none }
def DeedOneWrongFalsely : Prop := deedOneRow.holds Try.pinned (OpenSpec.ofChange deedOneWrong)

/-- 'pleachinglaw.DeedDoes': WHATEVER THE INPUT: true; the input reads as it did. -/
def deedDoesSpec : ChangeSpec := { name := "deedDoes", fn := fun _ => fun
  | [d1, d2, d3] => { results := [.lit (.bool true)], args := [d1, d2, d3] }
  | _ => none }
def deedDoesRow : OpenClaim := { program := "ytdbnfhpgmcjngab", sum := "c24e9576f726caca2864a0de97f187f641980aee2db06e0d40b0e7e5f70a4c53", func := "pleaching/pleachinglaw.DeedDoes", spec := "deedDoes", unfollowed := true, recurses := true, loops := true, apart := false }
def DeedDoesSaid : Prop := deedDoesRow.holds Try.pinned (OpenSpec.ofChange deedDoesSpec)

/-- ITS FALSE NEIGHBOUR: 'it returns false'. Refute it at one input. -/
def deedDoesWrong : ChangeSpec := { name := "deedDoes", fn := fun _ => fun
  | [d1, d2, d3] => { results := [.lit (.bool false)], args := [d1, d2, d3] }
  | _ => none }
def DeedDoesWrongFalsely : Prop := deedDoesRow.holds Try.pinned (OpenSpec.ofChange deedDoesWrong)

/-- 'pleachinglaw.MergeDoes': WHATEVER THE INPUT: true; the input reads as it did. -/
def mergeDoesSpec : ChangeSpec := { name := "mergeDoes", fn := fun _ => fun
  | [d1, d2, d3, d4, d5] => { results := [.lit (.bool true)], args := [d1, d2, d3, d4, d5] }
  | _ => none }
def mergeDoesRow : OpenClaim := { program := "ytdbnfhpgmcjngab", sum := "c24e9576f726caca2864a0de97f187f641980aee2db06e0d40b0e7e5f70a4c53", func := "pleaching/pleachinglaw.MergeDoes", spec := "mergeDoes", unfollowed := true, recurses := true, loops := true, apart := false }
def MergeDoesSaid : Prop := mergeDoesRow.holds Try.pinned (OpenSpec.ofChange mergeDoesSpec)

/-- ITS FALSE NEIGHBOUR: 'it returns false'. Refute it at one input. -/
def mergeDoesWrong : ChangeSpec := { name := "mergeDoes", fn := fun _ => fun
  | [d1, d2, d3, d4, d5] => { results := [.lit (.bool false)], args := [d1, d2, d3, d4, d5] }
  | _ => none }
def MergeDoesWrongFalsely : Prop := mergeDoesRow.holds Try.pinned (OpenSpec.ofChange mergeDoesWrong)

/-- 'pleachinglaw.MergeSides': WHATEVER THE INPUT: true; the input reads as it did. -/
def mergeSidesSpec : ChangeSpec := { name := "mergeSides", fn := fun _ => fun
  | [d1, d2] => { results := [.lit (.bool true)], args := [d1, d2] }
  | _ => none }
def mergeSidesRow : OpenClaim := { program := "ytdbnfhpgmcjngab", sum := "c24e9576f726caca2864a0de97f187f641980aee2db06e0d40b0e7e5f70a4c53", func := "pleaching/pleachinglaw.MergeSides", spec := "mergeSides", unfollowed := true, recurses := true, loops := true, apart := false }
def MergeSidesSaid : Prop := mergeSidesRow.holds Try.pinned (OpenSpec.ofChange mergeSidesSpec)

/-- ITS FALSE NEIGHBOUR: 'it returns false'. Refute it at one input. -/
def mergeSidesWrong : ChangeSpec := { name := "mergeSides", fn := fun _ => fun
  | [d1, d2] => { results := [.lit (.bool false)], args := [d1, d2] }
  | _ => none }
def MergeSidesWrongFalsely : Prop := mergeSidesRow.holds Try.pinned (OpenSpec.ofChange mergeSidesWrong)

/-- 'pleachinglaw.MergeSwaps': WHATEVER THE INPUT: true; the input reads as it did. -/
def mergeSwapsSpec : ChangeSpec := { name := "mergeSwaps", fn := fun _ => fun
  | [d1, d2, d3] => { results := [.lit (.bool true)], args := [d1, d2, d3] }
  | _ => none }
def mergeSwapsRow : OpenClaim := { program := "ytdbnfhpgmcjngab", sum := "c24e9576f726caca2864a0de97f187f641980aee2db06e0d40b0e7e5f70a4c53", func := "pleaching/pleachinglaw.MergeSwaps", spec := "mergeSwaps", unfollowed := true, recurses := true, loops := true, apart := false }
def MergeSwapsSaid : Prop := mergeSwapsRow.holds Try.pinned (OpenSpec.ofChange mergeSwapsSpec)

/-- ITS FALSE NEIGHBOUR: 'it returns false'. Refute it at one input. -/
def mergeSwapsWrong : ChangeSpec := { name := "mergeSwaps", fn := fun _ => fun
  | [d1, d2, d3] => { results := [.lit (.bool false)], args := [d1, d2, d3] }
  | _ => none }
def MergeSwapsWrongFalsely : Prop := mergeSwapsRow.holds Try.pinned (OpenSpec.ofChange mergeSwapsWrong)

/-- 'pleachinglaw.MergeCommon': WHATEVER THE INPUT: true; the input reads as it did. -/
def mergeCommonSpec : ChangeSpec := { name := "mergeCommon", fn := fun _ => fun
  | [d1, d2] => { results := [.lit (.bool true)], args := [d1, d2] }
  | _ => none }
def mergeCommonRow : OpenClaim := { program := "ytdbnfhpgmcjngab", sum := "c24e9576f726caca2864a0de97f187f641980aee2db06e0d40b0e7e5f70a4c53", func := "pleaching/pleachinglaw.MergeCommon", spec := "mergeCommon", unfollowed := true, recurses := true, loops := true, apart := false }
def MergeCommonSaid : Prop := mergeCommonRow.holds Try.pinned (OpenSpec.ofChange mergeCommonSpec)

/-- ITS FALSE NEIGHBOUR: 'it returns false'. Refute it at one input. -/
def mergeCommonWrong : ChangeSpec := { name := "mergeCommon", fn := fun _ => fun
  | [d1, d2] => { results := [.lit (.bool false)], args := [d1, d2] }
  | _ => none }
def MergeCommonWrongFalsely : Prop := mergeCommonRow.holds Try.pinned (OpenSpec.ofChange mergeCommonWrong)

/-- 'pleachinglaw.MergeApart': WHATEVER THE INPUT: true; the input reads as it did. -/
def mergeApartSpec : ChangeSpec := { name := "mergeApart", fn := fun _ => fun
  | [d1, d2, d3, d4, d5] => { results := [.lit (.bool true)], args := [d1, d2, d3, d4, d5] }
  | _ => none }
def mergeApartRow : OpenClaim := { program := "ytdbnfhpgmcjngab", sum := "c24e9576f726caca2864a0de97f187f641980aee2db06e0d40b0e7e5f70a4c53", func := "pleaching/pleachinglaw.MergeApart", spec := "mergeApart", unfollowed := true, recurses := true, loops := true, apart := false }
def MergeApartSaid : Prop := mergeApartRow.holds Try.pinned (OpenSpec.ofChange mergeApartSpec)

/-- ITS FALSE NEIGHBOUR: 'it returns false'. Refute it at one input. -/
def mergeApartWrong : ChangeSpec := { name := "mergeApart", fn := fun _ => fun
  | [d1, d2, d3, d4, d5] => { results := [.lit (.bool false)], args := [d1, d2, d3, d4, d5] }
  | _ => none }
def MergeApartWrongFalsely : Prop := mergeApartRow.holds Try.pinned (OpenSpec.ofChange mergeApartWrong)

/- THE SECOND FORM. 'bulk': how many values and letters a reading holds, each counted each time it is reached (what is shared counts as often as it is met; a slice's spare places count too). A statement '..UptoSaid' is the law's where the arguments, and the package variables that the reading takes, are together of bulk at most 1048576: NARROWER than '..Said'. Prove '..Said' where nothing that the law and all that it calls make is longer than what came in: it says more and counts as full. Else prove '..UptoSaid'. A law counts once. -/
mutual
def uptoBulk {H : Type} : DataW H → Nat
  | .lit (.string bytes) => bytes.length + 1
  | .lit _ => 1
  | .nil => 1
  | .ptr d => uptoBulk d + 1
  | .slice elems spare => uptoBulkAll elems + uptoBulkAll spare + 1
  | .agg parts => uptoBulkAll parts + 1
  | .iface _ d => uptoBulk d + 1
  | .map entries => uptoBulkEntries entries + 1
  | .held _ => 1
def uptoBulkAll {H : Type} : List (DataW H) → Nat
  | [] => 0
  | d :: r => uptoBulk d + uptoBulkAll r
def uptoBulkEntries {H : Type} : List (Lit × DataW H) → Nat
  | [] => 0
  | x :: r => uptoBulkEntry x + uptoBulkEntries r
def uptoBulkEntry {H : Type} : Lit × DataW H → Nat
  | (.string bytes, d) => bytes.length + uptoBulk d + 1
  | (_, d) => uptoBulk d + 1
 end
def uptoSmall : (H : Type) → List (DataW H) → Bool := fun _ ds => decide (uptoBulkAll ds ≤ 1048576)
def OpenSpec.upto (s : _root_.Go.ChangeSpec) : _root_.Go.OpenSpec := { _root_.Go.OpenSpec.ofChange s with cond := some uptoSmall }

/-- 'pleachinglaw.TextDoes', WHERE WHAT IT READS IS OF BULK AT MOST 1048576: true; the input reads as it did. -/
def textDoesUptoRow : OpenClaim := { program := "ytdbnfhpgmcjngab", sum := "c24e9576f726caca2864a0de97f187f641980aee2db06e0d40b0e7e5f70a4c53", func := "pleaching/pleachinglaw.TextDoes", spec := "textDoes", inPlace := ["internal/abi.NoEscape"], unfollowed := true, recurses := true, loops := true, apart := false, narrowed := true }
def TextDoesUptoSaid : Prop := textDoesUptoRow.holds Try.pinned (OpenSpec.upto textDoesSpec)

/-- 'pleachinglaw.TextBack', WHERE WHAT IT READS IS OF BULK AT MOST 1048576: true; the input reads as it did. -/
def textBackUptoRow : OpenClaim := { program := "ytdbnfhpgmcjngab", sum := "c24e9576f726caca2864a0de97f187f641980aee2db06e0d40b0e7e5f70a4c53", func := "pleaching/pleachinglaw.TextBack", spec := "textBack", inPlace := ["internal/abi.NoEscape"], unfollowed := true, recurses := true, loops := true, apart := false, narrowed := true }
def TextBackUptoSaid : Prop := textBackUptoRow.holds Try.pinned (OpenSpec.upto textBackSpec)

/-- 'pleachinglaw.TextApart', WHERE WHAT IT READS IS OF BULK AT MOST 1048576: true; the input reads as it did. -/
def textApartUptoRow : OpenClaim := { program := "ytdbnfhpgmcjngab", sum := "c24e9576f726caca2864a0de97f187f641980aee2db06e0d40b0e7e5f70a4c53", func := "pleaching/pleachinglaw.TextApart", spec := "textApart", inPlace := ["internal/abi.NoEscape"], unfollowed := true, recurses := true, loops := true, apart := false, narrowed := true }
def TextApartUptoSaid : Prop := textApartUptoRow.holds Try.pinned (OpenSpec.upto textApartSpec)

/-- 'pleachinglaw.DeedBack', WHERE WHAT IT READS IS OF BULK AT MOST 1048576: true; the input reads as it did. -/
def deedBackUptoRow : OpenClaim := { program := "ytdbnfhpgmcjngab", sum := "c24e9576f726caca2864a0de97f187f641980aee2db06e0d40b0e7e5f70a4c53", func := "pleaching/pleachinglaw.DeedBack", spec := "deedBack", unfollowed := true, recurses := true, loops := true, apart := false, narrowed := true }
def DeedBackUptoSaid : Prop := deedBackUptoRow.holds Try.pinned (OpenSpec.upto deedBackSpec)

/-- 'pleachinglaw.DeedOne', WHERE WHAT IT READS IS OF BULK AT MOST 1048576: true; the input reads as it did. -/
def deedOneUptoRow : OpenClaim := { program := "ytdbnfhpgmcjngab", sum := "c24e9576f726caca2864a0de97f187f641980aee2db06e0d40b0e7e5f70a4c53", func := "pleaching/pleachinglaw.DeedOne", spec := "deedOne", unfollowed := true, recurses := true, loops := true, apart := false, narrowed := true }
def DeedOneUptoSaid : Prop := deedOneUptoRow.holds Try.pinned (OpenSpec.upto deedOneSpec)

/-- 'pleachinglaw.DeedDoes', WHERE WHAT IT READS IS OF BULK AT MOST 1048576: true; the input reads as it did. -/
def deedDoesUptoRow : OpenClaim := { program := "ytdbnfhpgmcjngab", sum := "c24e9576f726caca2864a0de97f187f641980aee2db06e0d40b0e7e5f70a4c53", func := "pleaching/pleachinglaw.DeedDoes", spec := "deedDoes", unfollowed := true, recurses := true, loops := true, apart := false, narrowed := true }
def DeedDoesUptoSaid : Prop := deedDoesUptoRow.holds Try.pinned (OpenSpec.upto deedDoesSpec)

/-- 'pleachinglaw.MergeDoes', WHERE WHAT IT READS IS OF BULK AT MOST 1048576: true; the input reads as it did. -/
def mergeDoesUptoRow : OpenClaim := { program := "ytdbnfhpgmcjngab", sum := "c24e9576f726caca2864a0de97f187f641980aee2db06e0d40b0e7e5f70a4c53", func := "pleaching/pleachinglaw.MergeDoes", spec := "mergeDoes", unfollowed := true, recurses := true, loops := true, apart := false, narrowed := true }
def MergeDoesUptoSaid : Prop := mergeDoesUptoRow.holds Try.pinned (OpenSpec.upto mergeDoesSpec)

/-- 'pleachinglaw.MergeSides', WHERE WHAT IT READS IS OF BULK AT MOST 1048576: true; the input reads as it did. -/
def mergeSidesUptoRow : OpenClaim := { program := "ytdbnfhpgmcjngab", sum := "c24e9576f726caca2864a0de97f187f641980aee2db06e0d40b0e7e5f70a4c53", func := "pleaching/pleachinglaw.MergeSides", spec := "mergeSides", unfollowed := true, recurses := true, loops := true, apart := false, narrowed := true }
def MergeSidesUptoSaid : Prop := mergeSidesUptoRow.holds Try.pinned (OpenSpec.upto mergeSidesSpec)

/-- 'pleachinglaw.MergeSwaps', WHERE WHAT IT READS IS OF BULK AT MOST 1048576: true; the input reads as it did. -/
def mergeSwapsUptoRow : OpenClaim := { program := "ytdbnfhpgmcjngab", sum := "c24e9576f726caca2864a0de97f187f641980aee2db06e0d40b0e7e5f70a4c53", func := "pleaching/pleachinglaw.MergeSwaps", spec := "mergeSwaps", unfollowed := true, recurses := true, loops := true, apart := false, narrowed := true }
def MergeSwapsUptoSaid : Prop := mergeSwapsUptoRow.holds Try.pinned (OpenSpec.upto mergeSwapsSpec)

/-- 'pleachinglaw.MergeCommon', WHERE WHAT IT READS IS OF BULK AT MOST 1048576: true; the input reads as it did. -/
def mergeCommonUptoRow : OpenClaim := { program := "ytdbnfhpgmcjngab", sum := "c24e9576f726caca2864a0de97f187f641980aee2db06e0d40b0e7e5f70a4c53", func := "pleaching/pleachinglaw.MergeCommon", spec := "mergeCommon", unfollowed := true, recurses := true, loops := true, apart := false, narrowed := true }
def MergeCommonUptoSaid : Prop := mergeCommonUptoRow.holds Try.pinned (OpenSpec.upto mergeCommonSpec)

/-- 'pleachinglaw.MergeApart', WHERE WHAT IT READS IS OF BULK AT MOST 1048576: true; the input reads as it did. -/
def mergeApartUptoRow : OpenClaim := { program := "ytdbnfhpgmcjngab", sum := "c24e9576f726caca2864a0de97f187f641980aee2db06e0d40b0e7e5f70a4c53", func := "pleaching/pleachinglaw.MergeApart", spec := "mergeApart", unfollowed := true, recurses := true, loops := true, apart := false, narrowed := true }
def MergeApartUptoSaid : Prop := mergeApartUptoRow.holds Try.pinned (OpenSpec.upto mergeApartSpec)

end Rows
end Go.Proofs.Ytdbnfhpgmcjngab
