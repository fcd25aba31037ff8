/-
  DERIVED. GIVEN WITH THE SEED: THE CARDS: each row of YtdbnfhpgmcjngadGreatDoorRows.lean that lists a variable, with what it lists TIED to the program's text (the seventh form; the later family's looks); each row that meets fmt, with fmt's text TOLD by the authors' own Lean function (tested against real Go, not proved from fmt's source: count such statements apart). THE CARD IS WHAT COUNTS. Prove the row's statement (the work); the ties are given (YtdbnfhpgmcjngadGreatDoorTie.lean); close each card by the builder's one call (the guide's Derived/Test/ToyasCard.lean, 'card_holds'). Laid BY PROGRAM, IN A SANDBOX (cutbox-door.mjs). By AI agents, Wed Nov 11 2026. No macro, syntax, notation, axiom, sorry.
-/
import Derived.Test.YtdbnfhpgmcjngadGreatDoorRows
import GoSem.ClaimSeven
namespace Go.Proofs.YtdbnfhpgmcjngadGreatDoor
namespace Rows

/-- THE TIED CARD OF 'pleachinglaw.BookBlame'. -/
def bookBlameCard : Claim7 := { stood := { row := bookBlameRow, standIns := [], harness := (true, "09f61c3e27ef323ac387fcb7cd473b9dde708234dfd7f440e24c88a74b1ade81"), looks := true }, kinds := [], alts := [], laidByText := true, laidKinds := [.data, .data, .data, .sentinel, .sentinel], laidTests := true, laidLooks := .later }
def BookBlameCardSaid : Prop := Claim7.holds Tryz.pinned (.plain (OpenSpec.ofChange bookBlameSpec)) bookBlameCard

/-- THE TIED CARD OF 'pleachinglaw.PatchDiffs'. -/
def patchDiffsCard : Claim7 := { stood := { row := patchDiffsRow, standIns := [], harness := (true, "09f61c3e27ef323ac387fcb7cd473b9dde708234dfd7f440e24c88a74b1ade81"), looks := true }, kinds := [], alts := [], laidByText := true, laidKinds := [.data, .data, .data, .data, .sentinel, .sentinel, .pinned], laidTests := true, laidLooks := .later }
def PatchDiffsCardSaid : Prop := Claim7.holds Tryz.pinned (.plain (OpenSpec.ofChange patchDiffsSpec)) patchDiffsCard

/-- THE SECOND FORM's CARD OF 'pleachinglaw.BookBlame'. -/
def bookBlameUptoCard : Claim7 := { stood := { row := bookBlameUptoRow, standIns := [], harness := (true, "09f61c3e27ef323ac387fcb7cd473b9dde708234dfd7f440e24c88a74b1ade81"), looks := true }, kinds := [], alts := [], laidByText := true, laidKinds := [.data, .data, .data, .sentinel, .sentinel], laidTests := true, laidLooks := .later }
def BookBlameUptoCardSaid : Prop := Claim7.holds Tryz.pinned (.plain (OpenSpec.upto bookBlameSpec)) bookBlameUptoCard

/-- THE SECOND FORM's CARD OF 'pleachinglaw.PatchDiffs'. -/
def patchDiffsUptoCard : Claim7 := { stood := { row := patchDiffsUptoRow, standIns := [], harness := (true, "09f61c3e27ef323ac387fcb7cd473b9dde708234dfd7f440e24c88a74b1ade81"), looks := true }, kinds := [], alts := [], laidByText := true, laidKinds := [.data, .data, .data, .data, .sentinel, .sentinel, .pinned], laidTests := true, laidLooks := .later }
def PatchDiffsUptoCardSaid : Prop := Claim7.holds Tryz.pinned (.plain (OpenSpec.upto patchDiffsSpec)) patchDiffsUptoCard
end Rows
end Go.Proofs.YtdbnfhpgmcjngadGreatDoor
