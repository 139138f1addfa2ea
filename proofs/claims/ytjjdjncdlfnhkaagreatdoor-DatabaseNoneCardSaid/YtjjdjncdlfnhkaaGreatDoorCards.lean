/-
  DERIVED. GIVEN WITH THE SEED: THE CARDS: each row of YtjjdjncdlfnhkaaGreatDoorRows.lean that lists a variable, with what it lists TIED to the program's text (the seventh form; the later family's looks); each row that meets fmt, with fmt's text TOLD by the authors' own Lean function (tested against real Go, not proved from fmt's source: count such statements apart). THE CARD IS WHAT COUNTS. Prove the row's statement (the work); the ties are given (YtjjdjncdlfnhkaaGreatDoorTie.lean); close each card by the builder's one call (the guide's Derived/Test/ToyasCard.lean, 'card_holds'). Laid BY PROGRAM, IN A SANDBOX (cutbox-door.mjs). By AI agents, Wed Nov 11 2026. No macro, syntax, notation, axiom, sorry.
-/
import Derived.Test.YtjjdjncdlfnhkaaGreatDoorRows
import GoSem.ClaimSeven
namespace Go.Proofs.YtjjdjncdlfnhkaaGreatDoor
namespace Rows

/-- THE TIED CARD OF 'watchwordlaw26.DatabaseNone'. -/
def databaseNoneCard : Claim7 := { stood := { row := databaseNoneRow, standIns := [], harness := (true, "1bf60e44a41f6df2a8cf9bb446fa61620e12b5bac801fed87b7c152c05ec9a4c"), looks := true }, kinds := [], alts := [], laidByText := true, laidKinds := [.data, .data, .data, .data, .sentinel, .sentinel, .data, .data, .pinned], laidTests := true, laidLooks := .later }
def DatabaseNoneCardSaid : Prop := Claim7.holds Tryz.pinned (.plain (OpenSpec.ofChange databaseNoneSpec)) databaseNoneCard

/-- THE SECOND FORM's CARD OF 'watchwordlaw26.DatabaseNone'. -/
def databaseNoneUptoCard : Claim7 := { stood := { row := databaseNoneUptoRow, standIns := [], harness := (true, "1bf60e44a41f6df2a8cf9bb446fa61620e12b5bac801fed87b7c152c05ec9a4c"), looks := true }, kinds := [], alts := [], laidByText := true, laidKinds := [.data, .data, .data, .data, .sentinel, .sentinel, .data, .data, .pinned], laidTests := true, laidLooks := .later }
def DatabaseNoneUptoCardSaid : Prop := Claim7.holds Tryz.pinned (.plain (OpenSpec.upto databaseNoneSpec)) databaseNoneUptoCard
end Rows
end Go.Proofs.YtjjdjncdlfnhkaaGreatDoor
