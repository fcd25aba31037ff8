/-
  NARROWER THAN 'FOR EVERY INPUT', by the rows' own cells (each row's printed sentence says how): MergeClash: loops · ScriptRuns: loops · ScriptBack: loops · ScriptShort: loops · ScriptJoins: loops · ScriptMakes: loops · BookKeeps: loops · BookSteps: loops · BookFirst: loops.
  DERIVED. THE GIVEN ROWS OF THIS SEAT. 9 by the template 'for every input the law returns true; each argument reads behind the call as it read before'; 0 by the template 'total and deterministic' (their statements: YtdbnfhpgmcjngacTotals.lean).
  GIVEN WITH THE SEED: the statements are not yours to turn. If you find one false, say at which input.
  Laid BY PROGRAM, IN A SANDBOX (cutbox-rows.mjs): the forced cells as the released guide's own fill.sh prints them over the translation ebd36f8d616beef4… (all of the seat's roots in one cut). By AI agents, Wed Nov 11 2026. No macro, syntax, notation, axiom, sorry.
-/
import Derived.Test.YtdbnfhpgmcjngacChecked
import GoSem.Claim
import GoSem.ClaimJoined
import GoSem.ClaimMapViews
import Derived.JoinedTies
import Derived.KernelRfl
namespace Go.Proofs.Ytdbnfhpgmcjngac
/- THE CELL 'sum', in the pinned program and in every row, IS THE sha256 OF THE DUMP (.gsa) THAT YtdbnfhpgmcjngacProg.lean LOADS. Nothing in Lean hashes anything: it is a label: what it is worth is what the hold of that sum in a sandbox is worth. -/
noncomputable def Try.pinned : Pinned := { name := "ytdbnfhpgmcjngac", sum := "ebd36f8d616beef49526b1efc8e43cc6d01939801228ffb070583dd435ff6aa9", checked := Try.checked }
namespace Rows
def none {H : Type} : Left H := { results := [], args := [] }

/-- 'pleachinglaw.MergeClash': WHATEVER THE INPUT: true; the input reads as it did. -/
def mergeClashSpec : ChangeSpec := { name := "mergeClash", fn := fun _ => fun
  | [d1, d2, d3] => { results := [.lit (.bool true)], args := [d1, d2, d3] }
  | _ => none }
def mergeClashRow : OpenClaim := { program := "ytdbnfhpgmcjngac", sum := "ebd36f8d616beef49526b1efc8e43cc6d01939801228ffb070583dd435ff6aa9", func := "pleaching/pleachinglaw.MergeClash", spec := "mergeClash", unfollowed := true, recurses := true, loops := true, apart := false }
def MergeClashSaid : Prop := mergeClashRow.holds Try.pinned (OpenSpec.ofChange mergeClashSpec)

/-- ITS FALSE NEIGHBOUR: 'it returns false'. Refute it at one input. -/
def mergeClashWrong : ChangeSpec := { name := "mergeClash", fn := fun _ => fun
  | [d1, d2, d3] => { results := [.lit (.bool false)], args := [d1, d2, d3] }
  | _ => none }
def MergeClashWrongFalsely : Prop := mergeClashRow.holds Try.pinned (OpenSpec.ofChange mergeClashWrong)

/-- 'pleachinglaw.ScriptRuns': WHATEVER THE INPUT: true; the input reads as it did. -/
def scriptRunsSpec : ChangeSpec := { name := "scriptRuns", fn := fun _ => fun
  | [d1, d2] => { results := [.lit (.bool true)], args := [d1, d2] }
  | _ => none }
def scriptRunsRow : OpenClaim := { program := "ytdbnfhpgmcjngac", sum := "ebd36f8d616beef49526b1efc8e43cc6d01939801228ffb070583dd435ff6aa9", func := "pleaching/pleachinglaw.ScriptRuns", spec := "scriptRuns", unfollowed := true, recurses := true, loops := true, apart := false }
def ScriptRunsSaid : Prop := scriptRunsRow.holds Try.pinned (OpenSpec.ofChange scriptRunsSpec)

/-- ITS FALSE NEIGHBOUR: 'it returns false'. Refute it at one input. -/
def scriptRunsWrong : ChangeSpec := { name := "scriptRuns", fn := fun _ => fun
  | [d1, d2] => { results := [.lit (.bool false)], args := [d1, d2] }
  | _ => none }
def ScriptRunsWrongFalsely : Prop := scriptRunsRow.holds Try.pinned (OpenSpec.ofChange scriptRunsWrong)

/-- 'pleachinglaw.ScriptBack': WHATEVER THE INPUT: true; the input reads as it did. -/
def scriptBackSpec : ChangeSpec := { name := "scriptBack", fn := fun _ => fun
  | [d1, d2] => { results := [.lit (.bool true)], args := [d1, d2] }
  | _ => none }
def scriptBackRow : OpenClaim := { program := "ytdbnfhpgmcjngac", sum := "ebd36f8d616beef49526b1efc8e43cc6d01939801228ffb070583dd435ff6aa9", func := "pleaching/pleachinglaw.ScriptBack", spec := "scriptBack", unfollowed := true, recurses := true, loops := true, apart := false }
def ScriptBackSaid : Prop := scriptBackRow.holds Try.pinned (OpenSpec.ofChange scriptBackSpec)

/-- ITS FALSE NEIGHBOUR: 'it returns false'. Refute it at one input. -/
def scriptBackWrong : ChangeSpec := { name := "scriptBack", fn := fun _ => fun
  | [d1, d2] => { results := [.lit (.bool false)], args := [d1, d2] }
  | _ => none }
def ScriptBackWrongFalsely : Prop := scriptBackRow.holds Try.pinned (OpenSpec.ofChange scriptBackWrong)

/-- 'pleachinglaw.ScriptShort': WHATEVER THE INPUT: true; the input reads as it did. -/
def scriptShortSpec : ChangeSpec := { name := "scriptShort", fn := fun _ => fun
  | [d1, d2] => { results := [.lit (.bool true)], args := [d1, d2] }
  | _ => none }
def scriptShortRow : OpenClaim := { program := "ytdbnfhpgmcjngac", sum := "ebd36f8d616beef49526b1efc8e43cc6d01939801228ffb070583dd435ff6aa9", func := "pleaching/pleachinglaw.ScriptShort", spec := "scriptShort", unfollowed := true, recurses := true, loops := true, apart := false }
def ScriptShortSaid : Prop := scriptShortRow.holds Try.pinned (OpenSpec.ofChange scriptShortSpec)

/-- ITS FALSE NEIGHBOUR: 'it returns false'. Refute it at one input. -/
def scriptShortWrong : ChangeSpec := { name := "scriptShort", fn := fun _ => fun
  | [d1, d2] => { results := [.lit (.bool false)], args := [d1, d2] }
  | _ => none }
def ScriptShortWrongFalsely : Prop := scriptShortRow.holds Try.pinned (OpenSpec.ofChange scriptShortWrong)

/-- 'pleachinglaw.ScriptJoins': WHATEVER THE INPUT: true; the input reads as it did. -/
def scriptJoinsSpec : ChangeSpec := { name := "scriptJoins", fn := fun _ => fun
  | [d1, d2, d3] => { results := [.lit (.bool true)], args := [d1, d2, d3] }
  | _ => none }
def scriptJoinsRow : OpenClaim := { program := "ytdbnfhpgmcjngac", sum := "ebd36f8d616beef49526b1efc8e43cc6d01939801228ffb070583dd435ff6aa9", func := "pleaching/pleachinglaw.ScriptJoins", spec := "scriptJoins", unfollowed := true, recurses := true, loops := true, apart := false }
def ScriptJoinsSaid : Prop := scriptJoinsRow.holds Try.pinned (OpenSpec.ofChange scriptJoinsSpec)

/-- ITS FALSE NEIGHBOUR: 'it returns false'. Refute it at one input. -/
def scriptJoinsWrong : ChangeSpec := { name := "scriptJoins", fn := fun _ => fun
  | [d1, d2, d3] => { results := [.lit (.bool false)], args := [d1, d2, d3] }
  | _ => none }
def ScriptJoinsWrongFalsely : Prop := scriptJoinsRow.holds Try.pinned (OpenSpec.ofChange scriptJoinsWrong)

/-- 'pleachinglaw.ScriptMakes': WHATEVER THE INPUT: true; the input reads as it did. -/
def scriptMakesSpec : ChangeSpec := { name := "scriptMakes", fn := fun _ => fun
  | [d1, d2] => { results := [.lit (.bool true)], args := [d1, d2] }
  | _ => none }
def scriptMakesRow : OpenClaim := { program := "ytdbnfhpgmcjngac", sum := "ebd36f8d616beef49526b1efc8e43cc6d01939801228ffb070583dd435ff6aa9", func := "pleaching/pleachinglaw.ScriptMakes", spec := "scriptMakes", unfollowed := true, recurses := true, loops := true, apart := false }
def ScriptMakesSaid : Prop := scriptMakesRow.holds Try.pinned (OpenSpec.ofChange scriptMakesSpec)

/-- ITS FALSE NEIGHBOUR: 'it returns false'. Refute it at one input. -/
def scriptMakesWrong : ChangeSpec := { name := "scriptMakes", fn := fun _ => fun
  | [d1, d2] => { results := [.lit (.bool false)], args := [d1, d2] }
  | _ => none }
def ScriptMakesWrongFalsely : Prop := scriptMakesRow.holds Try.pinned (OpenSpec.ofChange scriptMakesWrong)

/-- 'pleachinglaw.BookKeeps': WHATEVER THE INPUT: true; the input reads as it did. -/
def bookKeepsSpec : ChangeSpec := { name := "bookKeeps", fn := fun _ => fun
  | [d] => { results := [.lit (.bool true)], args := [d] }
  | _ => none }
def bookKeepsRow : OpenClaim := { program := "ytdbnfhpgmcjngac", sum := "ebd36f8d616beef49526b1efc8e43cc6d01939801228ffb070583dd435ff6aa9", func := "pleaching/pleachinglaw.BookKeeps", spec := "bookKeeps", unfollowed := true, recurses := true, loops := true, apart := false }
def BookKeepsSaid : Prop := bookKeepsRow.holds Try.pinned (OpenSpec.ofChange bookKeepsSpec)

/-- ITS FALSE NEIGHBOUR: 'it returns false'. Refute it at one input. -/
def bookKeepsWrong : ChangeSpec := { name := "bookKeeps", fn := fun _ => fun
  | [d] => { results := [.lit (.bool false)], args := [d] }
  | _ => none }
def BookKeepsWrongFalsely : Prop := bookKeepsRow.holds Try.pinned (OpenSpec.ofChange bookKeepsWrong)

/-- 'pleachinglaw.BookSteps': WHATEVER THE INPUT: true; the input reads as it did. -/
def bookStepsSpec : ChangeSpec := { name := "bookSteps", fn := fun _ => fun
  | [d] => { results := [.lit (.bool true)], args := [d] }
  | _ => none }
def bookStepsRow : OpenClaim := { program := "ytdbnfhpgmcjngac", sum := "ebd36f8d616beef49526b1efc8e43cc6d01939801228ffb070583dd435ff6aa9", func := "pleaching/pleachinglaw.BookSteps", spec := "bookSteps", unfollowed := true, recurses := true, loops := true, apart := false }
def BookStepsSaid : Prop := bookStepsRow.holds Try.pinned (OpenSpec.ofChange bookStepsSpec)

/-- ITS FALSE NEIGHBOUR: 'it returns false'. Refute it at one input. -/
def bookStepsWrong : ChangeSpec := { name := "bookSteps", fn := fun _ => fun
  | [d] => { results := [.lit (.bool false)], args := [d] }
  | _ => none }
def BookStepsWrongFalsely : Prop := bookStepsRow.holds Try.pinned (OpenSpec.ofChange bookStepsWrong)

/-- 'pleachinglaw.BookFirst': WHATEVER THE INPUT: true; the input reads as it did. -/
def bookFirstSpec : ChangeSpec := { name := "bookFirst", fn := fun _ => fun
  | [d1, d2] => { results := [.lit (.bool true)], args := [d1, d2] }
  | _ => none }
def bookFirstRow : OpenClaim := { program := "ytdbnfhpgmcjngac", sum := "ebd36f8d616beef49526b1efc8e43cc6d01939801228ffb070583dd435ff6aa9", func := "pleaching/pleachinglaw.BookFirst", spec := "bookFirst", unfollowed := true, recurses := true, loops := true, apart := false }
def BookFirstSaid : Prop := bookFirstRow.holds Try.pinned (OpenSpec.ofChange bookFirstSpec)

/-- ITS FALSE NEIGHBOUR: 'it returns false'. Refute it at one input. -/
def bookFirstWrong : ChangeSpec := { name := "bookFirst", fn := fun _ => fun
  | [d1, d2] => { results := [.lit (.bool false)], args := [d1, d2] }
  | _ => none }
def BookFirstWrongFalsely : Prop := bookFirstRow.holds Try.pinned (OpenSpec.ofChange bookFirstWrong)

/- THE SECOND FORM. 'bulk': how many values and letters a reading holds, each counted each time it is reached (what is shared counts as often as it is met; a slice's spare places count too). A statement '..UptoSaid' is the law's where the arguments, and the package variables that the reading takes, are together of bulk at most 1048576: NARROWER than '..Said'. Prove '..Said' where nothing that the law and all that it calls make is longer than what came in: it says more and counts as full. Else prove '..UptoSaid'. A law counts once. -/
mutual
def uptoBulk {H : Type} : DataW H → Nat
  | .lit (.string bytes) => bytes.length + 1
  | .lit _ => 1
  | .nil => 1
  | .ptr d => uptoBulk d + 1
  | .slice elems spare => uptoBulkAll elems + uptoBulkAll spare + 1
  | .agg parts => uptoBulkAll parts + 1
  | .iface _ d => uptoBulk d + 1
  | .map entries => uptoBulkEntries entries + 1
  | .held _ => 1
def uptoBulkAll {H : Type} : List (DataW H) → Nat
  | [] => 0
  | d :: r => uptoBulk d + uptoBulkAll r
def uptoBulkEntries {H : Type} : List (Lit × DataW H) → Nat
  | [] => 0
  | x :: r => uptoBulkEntry x + uptoBulkEntries r
def uptoBulkEntry {H : Type} : Lit × DataW H → Nat
  | (.string bytes, d) => bytes.length + uptoBulk d + 1
  | (_, d) => uptoBulk d + 1
 end
def uptoSmall : (H : Type) → List (DataW H) → Bool := fun _ ds => decide (uptoBulkAll ds ≤ 1048576)
def OpenSpec.upto (s : _root_.Go.ChangeSpec) : _root_.Go.OpenSpec := { _root_.Go.OpenSpec.ofChange s with cond := some uptoSmall }

/-- 'pleachinglaw.MergeClash', WHERE WHAT IT READS IS OF BULK AT MOST 1048576: true; the input reads as it did. -/
def mergeClashUptoRow : OpenClaim := { program := "ytdbnfhpgmcjngac", sum := "ebd36f8d616beef49526b1efc8e43cc6d01939801228ffb070583dd435ff6aa9", func := "pleaching/pleachinglaw.MergeClash", spec := "mergeClash", unfollowed := true, recurses := true, loops := true, apart := false, narrowed := true }
def MergeClashUptoSaid : Prop := mergeClashUptoRow.holds Try.pinned (OpenSpec.upto mergeClashSpec)

/-- 'pleachinglaw.ScriptRuns', WHERE WHAT IT READS IS OF BULK AT MOST 1048576: true; the input reads as it did. -/
def scriptRunsUptoRow : OpenClaim := { program := "ytdbnfhpgmcjngac", sum := "ebd36f8d616beef49526b1efc8e43cc6d01939801228ffb070583dd435ff6aa9", func := "pleaching/pleachinglaw.ScriptRuns", spec := "scriptRuns", unfollowed := true, recurses := true, loops := true, apart := false, narrowed := true }
def ScriptRunsUptoSaid : Prop := scriptRunsUptoRow.holds Try.pinned (OpenSpec.upto scriptRunsSpec)

/-- 'pleachinglaw.ScriptBack', WHERE WHAT IT READS IS OF BULK AT MOST 1048576: true; the input reads as it did. -/
def scriptBackUptoRow : OpenClaim := { program := "ytdbnfhpgmcjngac", sum := "ebd36f8d616beef49526b1efc8e43cc6d01939801228ffb070583dd435ff6aa9", func := "pleaching/pleachinglaw.ScriptBack", spec := "scriptBack", unfollowed := true, recurses := true, loops := true, apart := false, narrowed := true }
def ScriptBackUptoSaid : Prop := scriptBackUptoRow.holds Try.pinned (OpenSpec.upto scriptBackSpec)

/-- 'pleachinglaw.ScriptShort', WHERE WHAT IT READS IS OF BULK AT MOST 1048576: true; the input reads as it did. -/
def scriptShortUptoRow : OpenClaim := { program := "ytdbnfhpgmcjngac", sum := "ebd36f8d616beef49526b1efc8e43cc6d01939801228ffb070583dd435ff6aa9", func := "pleaching/pleachinglaw.ScriptShort", spec := "scriptShort", unfollowed := true, recurses := true, loops := true, apart := false, narrowed := true }
def ScriptShortUptoSaid : Prop := scriptShortUptoRow.holds Try.pinned (OpenSpec.upto scriptShortSpec)

/-- 'pleachinglaw.ScriptJoins', WHERE WHAT IT READS IS OF BULK AT MOST 1048576: true; the input reads as it did. -/
def scriptJoinsUptoRow : OpenClaim := { program := "ytdbnfhpgmcjngac", sum := "ebd36f8d616beef49526b1efc8e43cc6d01939801228ffb070583dd435ff6aa9", func := "pleaching/pleachinglaw.ScriptJoins", spec := "scriptJoins", unfollowed := true, recurses := true, loops := true, apart := false, narrowed := true }
def ScriptJoinsUptoSaid : Prop := scriptJoinsUptoRow.holds Try.pinned (OpenSpec.upto scriptJoinsSpec)

/-- 'pleachinglaw.ScriptMakes', WHERE WHAT IT READS IS OF BULK AT MOST 1048576: true; the input reads as it did. -/
def scriptMakesUptoRow : OpenClaim := { program := "ytdbnfhpgmcjngac", sum := "ebd36f8d616beef49526b1efc8e43cc6d01939801228ffb070583dd435ff6aa9", func := "pleaching/pleachinglaw.ScriptMakes", spec := "scriptMakes", unfollowed := true, recurses := true, loops := true, apart := false, narrowed := true }
def ScriptMakesUptoSaid : Prop := scriptMakesUptoRow.holds Try.pinned (OpenSpec.upto scriptMakesSpec)

/-- 'pleachinglaw.BookKeeps', WHERE WHAT IT READS IS OF BULK AT MOST 1048576: true; the input reads as it did. -/
def bookKeepsUptoRow : OpenClaim := { program := "ytdbnfhpgmcjngac", sum := "ebd36f8d616beef49526b1efc8e43cc6d01939801228ffb070583dd435ff6aa9", func := "pleaching/pleachinglaw.BookKeeps", spec := "bookKeeps", unfollowed := true, recurses := true, loops := true, apart := false, narrowed := true }
def BookKeepsUptoSaid : Prop := bookKeepsUptoRow.holds Try.pinned (OpenSpec.upto bookKeepsSpec)

/-- 'pleachinglaw.BookSteps', WHERE WHAT IT READS IS OF BULK AT MOST 1048576: true; the input reads as it did. -/
def bookStepsUptoRow : OpenClaim := { program := "ytdbnfhpgmcjngac", sum := "ebd36f8d616beef49526b1efc8e43cc6d01939801228ffb070583dd435ff6aa9", func := "pleaching/pleachinglaw.BookSteps", spec := "bookSteps", unfollowed := true, recurses := true, loops := true, apart := false, narrowed := true }
def BookStepsUptoSaid : Prop := bookStepsUptoRow.holds Try.pinned (OpenSpec.upto bookStepsSpec)

/-- 'pleachinglaw.BookFirst', WHERE WHAT IT READS IS OF BULK AT MOST 1048576: true; the input reads as it did. -/
def bookFirstUptoRow : OpenClaim := { program := "ytdbnfhpgmcjngac", sum := "ebd36f8d616beef49526b1efc8e43cc6d01939801228ffb070583dd435ff6aa9", func := "pleaching/pleachinglaw.BookFirst", spec := "bookFirst", unfollowed := true, recurses := true, loops := true, apart := false, narrowed := true }
def BookFirstUptoSaid : Prop := bookFirstUptoRow.holds Try.pinned (OpenSpec.upto bookFirstSpec)

end Rows
end Go.Proofs.Ytdbnfhpgmcjngac
