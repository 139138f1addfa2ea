/-
  DERIVED. GIVEN WITH THE SEED: THE CARDS: each row of YtibhckkjciflaaaGreatDoorRows.lean that lists a variable, with what it lists TIED to the program's text (the seventh form; the later family's looks); each row that meets fmt, with fmt's text TOLD by the authors' own Lean function (tested against real Go, not proved from fmt's source: count such statements apart). THE CARD IS WHAT COUNTS. Prove the row's statement (the work); the ties are given (YtibhckkjciflaaaGreatDoorTie.lean); close each card by the builder's one call (the guide's Derived/Test/ToyasCard.lean, 'card_holds'). Laid BY PROGRAM, IN A SANDBOX (cutbox-door.mjs). By AI agents, Wed Nov 11 2026. No macro, syntax, notation, axiom, sorry.
-/
import Derived.Test.YtibhckkjciflaaaGreatDoorRows
import GoSem.ClaimSeven
namespace Go.Proofs.YtibhckkjciflaaaGreatDoor
namespace Rows

/-- THE TIED CARD OF 'watchwordlaw29.UpdateEncodes'. -/
def updateEncodesCard : Claim7 := { stood := { row := updateEncodesRow, standIns := [], harness := (true, "ab8898fce0bb4ae4c542ee8d1c022744e92d5da19d6c4232e95cb53639035e3c"), looks := true }, kinds := [], alts := [], laidByText := true, laidKinds := [.data, .data, .data, .data, .sentinel, .sentinel, .data, .data, .pinned], laidTests := true, laidLooks := .later }
def UpdateEncodesCardSaid : Prop := Claim7.holds Tryz.pinned (.plain (OpenSpec.ofChange updateEncodesSpec)) updateEncodesCard

/-- THE SECOND FORM's CARD OF 'watchwordlaw29.UpdateEncodes'. -/
def updateEncodesUptoCard : Claim7 := { stood := { row := updateEncodesUptoRow, standIns := [], harness := (true, "ab8898fce0bb4ae4c542ee8d1c022744e92d5da19d6c4232e95cb53639035e3c"), looks := true }, kinds := [], alts := [], laidByText := true, laidKinds := [.data, .data, .data, .data, .sentinel, .sentinel, .data, .data, .pinned], laidTests := true, laidLooks := .later }
def UpdateEncodesUptoCardSaid : Prop := Claim7.holds Tryz.pinned (.plain (OpenSpec.upto updateEncodesSpec)) updateEncodesUptoCard
end Rows
end Go.Proofs.YtibhckkjciflaaaGreatDoor
