/-
  DERIVED. GIVEN WITH THE SEED: THE CARDS: each row of YtfieenjdcpjmgaaGreatDoorRows.lean that lists a variable, with what it lists TIED to the program's text (the seventh form; the later family's looks); each row that meets fmt, with fmt's text TOLD by the authors' own Lean function (tested against real Go, not proved from fmt's source: count such statements apart). THE CARD IS WHAT COUNTS. Prove the row's statement (the work); the ties are given (YtfieenjdcpjmgaaGreatDoorTie.lean); close each card by the builder's one call (the guide's Derived/Test/ToyasCard.lean, 'card_holds'). Laid BY PROGRAM, IN A SANDBOX (cutbox-door.mjs). By AI agents, Wed Nov 11 2026. No macro, syntax, notation, axiom, sorry.
-/
import Derived.Test.YtfieenjdcpjmgaaGreatDoorRows
import GoSem.ClaimSeven
namespace Go.Proofs.YtfieenjdcpjmgaaGreatDoor
namespace Rows

/-- THE TIED CARD OF 'watchwordlaw26.DatabasePlays'. -/
def databasePlaysCard : Claim7 := { stood := { row := databasePlaysRow, standIns := [], harness := (true, "6eccc615b900e96c04f954e09852f186e1ba42df0ee8af6b9cd7e2b3310039f5"), looks := true }, kinds := [], alts := [], laidByText := true, laidKinds := [.data, .data, .data, .data, .sentinel, .sentinel, .data, .data, .pinned], laidTests := true, laidLooks := .later }
def DatabasePlaysCardSaid : Prop := Claim7.holds Tryz.pinned (.plain (OpenSpec.ofChange databasePlaysSpec)) databasePlaysCard

/-- THE TIED CARD OF 'watchwordlaw26.DatabaseCopies'. -/
def databaseCopiesCard : Claim7 := { stood := { row := databaseCopiesRow, standIns := [], harness := (true, "6eccc615b900e96c04f954e09852f186e1ba42df0ee8af6b9cd7e2b3310039f5"), looks := true }, kinds := [], alts := [], laidByText := true, laidKinds := [.data, .data, .data, .data, .sentinel, .sentinel, .data, .data, .pinned], laidTests := true, laidLooks := .later }
def DatabaseCopiesCardSaid : Prop := Claim7.holds Tryz.pinned (.plain (OpenSpec.ofChange databaseCopiesSpec)) databaseCopiesCard

/-- THE SECOND FORM's CARD OF 'watchwordlaw26.DatabasePlays'. -/
def databasePlaysUptoCard : Claim7 := { stood := { row := databasePlaysUptoRow, standIns := [], harness := (true, "6eccc615b900e96c04f954e09852f186e1ba42df0ee8af6b9cd7e2b3310039f5"), looks := true }, kinds := [], alts := [], laidByText := true, laidKinds := [.data, .data, .data, .data, .sentinel, .sentinel, .data, .data, .pinned], laidTests := true, laidLooks := .later }
def DatabasePlaysUptoCardSaid : Prop := Claim7.holds Tryz.pinned (.plain (OpenSpec.upto databasePlaysSpec)) databasePlaysUptoCard

/-- THE SECOND FORM's CARD OF 'watchwordlaw26.DatabaseCopies'. -/
def databaseCopiesUptoCard : Claim7 := { stood := { row := databaseCopiesUptoRow, standIns := [], harness := (true, "6eccc615b900e96c04f954e09852f186e1ba42df0ee8af6b9cd7e2b3310039f5"), looks := true }, kinds := [], alts := [], laidByText := true, laidKinds := [.data, .data, .data, .data, .sentinel, .sentinel, .data, .data, .pinned], laidTests := true, laidLooks := .later }
def DatabaseCopiesUptoCardSaid : Prop := Claim7.holds Tryz.pinned (.plain (OpenSpec.upto databaseCopiesSpec)) databaseCopiesUptoCard
end Rows
end Go.Proofs.YtfieenjdcpjmgaaGreatDoor
