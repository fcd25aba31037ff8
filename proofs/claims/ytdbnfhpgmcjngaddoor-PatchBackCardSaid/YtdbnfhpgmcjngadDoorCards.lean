/-
  DERIVED. GIVEN WITH THE SEED: THE CARDS: each row of YtdbnfhpgmcjngadDoorRows.lean that lists a variable, with what it lists TIED to the program's text (the seventh form; the later family's looks); each row that meets fmt, with fmt's text TOLD by the authors' own Lean function (tested against real Go, not proved from fmt's source: count such statements apart). THE CARD IS WHAT COUNTS. Prove the row's statement (the work); the ties are given (YtdbnfhpgmcjngadDoorTie.lean); close each card by the builder's one call (the guide's Derived/Test/ToyasCard.lean, 'card_holds'). Laid BY PROGRAM, IN A SANDBOX (cutbox-door.mjs). By AI agents, Wed Nov 11 2026. No macro, syntax, notation, axiom, sorry.
-/
import Derived.Test.YtdbnfhpgmcjngadDoorRows
import GoSem.ClaimSeven
namespace Go.Proofs.YtdbnfhpgmcjngadDoor
namespace Rows

/-- THE TIED CARD OF 'pleachinglaw.PatchBack'. -/
def patchBackCard : Claim7 := { stood := { row := patchBackRow, standIns := [], harness := (true, "281a4f231a948fc4fd422db11a8212ee4b87e3b94adf2d8c6561e6d4b6c43b63"), looks := true }, kinds := [], alts := [], laidByText := true, laidKinds := [.data, .data, .data, .data, .sentinel, .sentinel, .pinned], laidTests := true, laidLooks := .later }
def PatchBackCardSaid : Prop := Claim7.holds Tryd.pinned (.plain (OpenSpec.ofChange patchBackSpec)) patchBackCard

/-- THE TIED CARD OF 'pleachinglaw.PatchLines'. -/
def patchLinesCard : Claim7 := { stood := { row := patchLinesRow, standIns := [], harness := (true, "281a4f231a948fc4fd422db11a8212ee4b87e3b94adf2d8c6561e6d4b6c43b63"), looks := true }, kinds := [], alts := [], laidByText := true, laidKinds := [.data, .data, .data, .data, .sentinel, .sentinel, .pinned], laidTests := true, laidLooks := .later }
def PatchLinesCardSaid : Prop := Claim7.holds Tryd.pinned (.plain (OpenSpec.ofChange patchLinesSpec)) patchLinesCard

/-- THE SECOND FORM's CARD OF 'pleachinglaw.PatchBack'. -/
def patchBackUptoCard : Claim7 := { stood := { row := patchBackUptoRow, standIns := [], harness := (true, "281a4f231a948fc4fd422db11a8212ee4b87e3b94adf2d8c6561e6d4b6c43b63"), looks := true }, kinds := [], alts := [], laidByText := true, laidKinds := [.data, .data, .data, .data, .sentinel, .sentinel, .pinned], laidTests := true, laidLooks := .later }
def PatchBackUptoCardSaid : Prop := Claim7.holds Tryd.pinned (.plain (OpenSpec.upto patchBackSpec)) patchBackUptoCard

/-- THE SECOND FORM's CARD OF 'pleachinglaw.PatchLines'. -/
def patchLinesUptoCard : Claim7 := { stood := { row := patchLinesUptoRow, standIns := [], harness := (true, "281a4f231a948fc4fd422db11a8212ee4b87e3b94adf2d8c6561e6d4b6c43b63"), looks := true }, kinds := [], alts := [], laidByText := true, laidKinds := [.data, .data, .data, .data, .sentinel, .sentinel, .pinned], laidTests := true, laidLooks := .later }
def PatchLinesUptoCardSaid : Prop := Claim7.holds Tryd.pinned (.plain (OpenSpec.upto patchLinesSpec)) patchLinesUptoCard
end Rows
end Go.Proofs.YtdbnfhpgmcjngadDoor
