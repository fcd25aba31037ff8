/-
  DERIVED. GIVEN WITH THE SEED: THE CARDS: each row of YtdbnfhpgmcjngacDoorRows.lean that lists a variable, with what it lists TIED to the program's text (the seventh form; the later family's looks); each row that meets fmt, with fmt's text TOLD by the authors' own Lean function (tested against real Go, not proved from fmt's source: count such statements apart). THE CARD IS WHAT COUNTS. Prove the row's statement (the work); the ties are given (YtdbnfhpgmcjngacDoorTie.lean); close each card by the builder's one call (the guide's Derived/Test/ToyasCard.lean, 'card_holds'). Laid BY PROGRAM, IN A SANDBOX (cutbox-door.mjs). By AI agents, Wed Nov 11 2026. No macro, syntax, notation, axiom, sorry.
-/
import Derived.Test.YtdbnfhpgmcjngacDoorRows
import GoSem.ClaimSeven
namespace Go.Proofs.YtdbnfhpgmcjngacDoor
namespace Rows

/-- THE TIED CARD OF 'pleachinglaw.ScriptDiffs'. -/
def scriptDiffsCard : Claim7 := { stood := { row := scriptDiffsRow, standIns := [], harness := (true, "4f2f8f9937f588db002774ba4b27cd6d3818219f12c292f657093779d2f8e537"), looks := true }, kinds := [], alts := [], laidByText := true, laidKinds := [.data, .data, .data], laidTests := true, laidLooks := .later }
def ScriptDiffsCardSaid : Prop := Claim7.holds Tryd.pinned (.plain (OpenSpec.ofChange scriptDiffsSpec)) scriptDiffsCard

/-- THE TIED CARD OF 'pleachinglaw.PatchDoes'. -/
def patchDoesCard : Claim7 := { stood := { row := patchDoesRow, standIns := [], harness := (true, "4f2f8f9937f588db002774ba4b27cd6d3818219f12c292f657093779d2f8e537"), looks := true }, kinds := [], alts := [], laidByText := true, laidKinds := [.data, .data, .data, .data, .sentinel, .sentinel, .pinned], laidTests := true, laidLooks := .later }
def PatchDoesCardSaid : Prop := Claim7.holds Tryd.pinned (.plain (OpenSpec.ofChange patchDoesSpec)) patchDoesCard

/-- THE SECOND FORM's CARD OF 'pleachinglaw.ScriptDiffs'. -/
def scriptDiffsUptoCard : Claim7 := { stood := { row := scriptDiffsUptoRow, standIns := [], harness := (true, "4f2f8f9937f588db002774ba4b27cd6d3818219f12c292f657093779d2f8e537"), looks := true }, kinds := [], alts := [], laidByText := true, laidKinds := [.data, .data, .data], laidTests := true, laidLooks := .later }
def ScriptDiffsUptoCardSaid : Prop := Claim7.holds Tryd.pinned (.plain (OpenSpec.upto scriptDiffsSpec)) scriptDiffsUptoCard

/-- THE SECOND FORM's CARD OF 'pleachinglaw.PatchDoes'. -/
def patchDoesUptoCard : Claim7 := { stood := { row := patchDoesUptoRow, standIns := [], harness := (true, "4f2f8f9937f588db002774ba4b27cd6d3818219f12c292f657093779d2f8e537"), looks := true }, kinds := [], alts := [], laidByText := true, laidKinds := [.data, .data, .data, .data, .sentinel, .sentinel, .pinned], laidTests := true, laidLooks := .later }
def PatchDoesUptoCardSaid : Prop := Claim7.holds Tryd.pinned (.plain (OpenSpec.upto patchDoesSpec)) patchDoesUptoCard
end Rows
end Go.Proofs.YtdbnfhpgmcjngacDoor
