/-
  DERIVED. GIVEN WITH THE SEED: THE CARDS: each row of YtdbnfhpgmcjngaaGreatDoorRows.lean that lists a variable, with what it lists TIED to the program's text (the seventh form; the later family's looks); each row that meets fmt, with fmt's text TOLD by the authors' own Lean function (tested against real Go, not proved from fmt's source: count such statements apart). THE CARD IS WHAT COUNTS. Prove the row's statement (the work); the ties are given (YtdbnfhpgmcjngaaGreatDoorTie.lean); close each card by the builder's one call (the guide's Derived/Test/ToyasCard.lean, 'card_holds'). Laid BY PROGRAM, IN A SANDBOX (cutbox-door.mjs). By AI agents, Wed Nov 11 2026. No macro, syntax, notation, axiom, sorry.
-/
import Derived.Test.YtdbnfhpgmcjngaaGreatDoorRows
import GoSem.ClaimSeven
namespace Go.Proofs.YtdbnfhpgmcjngaaGreatDoor
namespace Rows

/-- THE TIED CARD OF 'pleachinglaw.DeskDoes'. -/
def deskDoesCard : Claim7 := { stood := { row := deskDoesRow, standIns := [], harness := (true, "2adb50453aaa2ffddb855d65e397cd7b836bf9ca7a3412fedc6f252de4054cc3"), looks := true }, kinds := [], alts := [], laidByText := true, laidKinds := [.data, .data, .data, .data, .sentinel, .sentinel, .pinned], laidTests := true, laidLooks := .later }
def DeskDoesCardSaid : Prop := Claim7.holds Tryz.pinned (.plain (OpenSpec.ofChange deskDoesSpec)) deskDoesCard

/-- THE SECOND FORM's CARD OF 'pleachinglaw.DeskDoes'. -/
def deskDoesUptoCard : Claim7 := { stood := { row := deskDoesUptoRow, standIns := [], harness := (true, "2adb50453aaa2ffddb855d65e397cd7b836bf9ca7a3412fedc6f252de4054cc3"), looks := true }, kinds := [], alts := [], laidByText := true, laidKinds := [.data, .data, .data, .data, .sentinel, .sentinel, .pinned], laidTests := true, laidLooks := .later }
def DeskDoesUptoCardSaid : Prop := Claim7.holds Tryz.pinned (.plain (OpenSpec.upto deskDoesSpec)) deskDoesUptoCard
end Rows
end Go.Proofs.YtdbnfhpgmcjngaaGreatDoor
