/-
  DERIVED. GIVEN WITH THE SEED: THE CARDS: each row of YtaghcadlgbnbdaaGreatDoorRows.lean that lists a variable, with what it lists TIED to the program's text (the seventh form; the later family's looks); each row that meets fmt, with fmt's text TOLD by the authors' own Lean function (tested against real Go, not proved from fmt's source: count such statements apart). THE CARD IS WHAT COUNTS. Prove the row's statement (the work); the ties are given (YtaghcadlgbnbdaaGreatDoorTie.lean); close each card by the builder's one call (the guide's Derived/Test/ToyasCard.lean, 'card_holds'). Laid BY PROGRAM, IN A SANDBOX (cutbox-door.mjs). By AI agents, Wed Nov 11 2026. No macro, syntax, notation, axiom, sorry.
-/
import Derived.Test.YtaghcadlgbnbdaaGreatDoorRows
import GoSem.ClaimSeven
namespace Go.Proofs.YtaghcadlgbnbdaaGreatDoor
namespace Rows

/-- THE TIED CARD OF 'watchwordlaw26.DatabaseLoops'. -/
def databaseLoopsCard : Claim7 := { stood := { row := databaseLoopsRow, standIns := [], harness := (true, "e04e627d71df10eddb0461150e17307dc6aa2760568d81ba22bce7dccd69bf59"), looks := true }, kinds := [], alts := [], laidByText := true, laidKinds := [.data, .data, .data, .data, .sentinel, .sentinel, .data, .data, .pinned], laidTests := true, laidLooks := .later }
def DatabaseLoopsCardSaid : Prop := Claim7.holds Tryz.pinned (.plain (OpenSpec.ofChange databaseLoopsSpec)) databaseLoopsCard

/-- THE SECOND FORM's CARD OF 'watchwordlaw26.DatabaseLoops'. -/
def databaseLoopsUptoCard : Claim7 := { stood := { row := databaseLoopsUptoRow, standIns := [], harness := (true, "e04e627d71df10eddb0461150e17307dc6aa2760568d81ba22bce7dccd69bf59"), looks := true }, kinds := [], alts := [], laidByText := true, laidKinds := [.data, .data, .data, .data, .sentinel, .sentinel, .data, .data, .pinned], laidTests := true, laidLooks := .later }
def DatabaseLoopsUptoCardSaid : Prop := Claim7.holds Tryz.pinned (.plain (OpenSpec.upto databaseLoopsSpec)) databaseLoopsUptoCard
end Rows
end Go.Proofs.YtaghcadlgbnbdaaGreatDoor
