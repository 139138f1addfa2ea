/-
  DERIVED. GIVEN WITH THE SEED: THE CARDS: each row of YtgmoeigmcdpkoaaGreatDoorRows.lean that lists a variable, with what it lists TIED to the program's text (the seventh form; the later family's looks); each row that meets fmt, with fmt's text TOLD by the authors' own Lean function (tested against real Go, not proved from fmt's source: count such statements apart). THE CARD IS WHAT COUNTS. Prove the row's statement (the work); the ties are given (YtgmoeigmcdpkoaaGreatDoorTie.lean); close each card by the builder's one call (the guide's Derived/Test/ToyasCard.lean, 'card_holds'). Laid BY PROGRAM, IN A SANDBOX (cutbox-door.mjs). By AI agents, Wed Nov 11 2026. No macro, syntax, notation, axiom, sorry.
-/
import Derived.Test.YtgmoeigmcdpkoaaGreatDoorRows
import GoSem.ClaimSeven
namespace Go.Proofs.YtgmoeigmcdpkoaaGreatDoor
namespace Rows

/-- THE TIED CARD OF 'watchwordlaw29.UpdateNone'. -/
def updateNoneCard : Claim7 := { stood := { row := updateNoneRow, standIns := [], harness := (true, "ac3e9da95495439360519ddde67cbf96208820d83a42af9b7d2cdd89d2b455d3"), looks := true }, kinds := [], alts := [], laidByText := true, laidKinds := [.data, .data, .data, .data, .sentinel, .sentinel, .data, .data, .pinned], laidTests := true, laidLooks := .later }
def UpdateNoneCardSaid : Prop := Claim7.holds Tryz.pinned (.plain (OpenSpec.ofChange updateNoneSpec)) updateNoneCard

/-- THE SECOND FORM's CARD OF 'watchwordlaw29.UpdateNone'. -/
def updateNoneUptoCard : Claim7 := { stood := { row := updateNoneUptoRow, standIns := [], harness := (true, "ac3e9da95495439360519ddde67cbf96208820d83a42af9b7d2cdd89d2b455d3"), looks := true }, kinds := [], alts := [], laidByText := true, laidKinds := [.data, .data, .data, .data, .sentinel, .sentinel, .data, .data, .pinned], laidTests := true, laidLooks := .later }
def UpdateNoneUptoCardSaid : Prop := Claim7.holds Tryz.pinned (.plain (OpenSpec.upto updateNoneSpec)) updateNoneUptoCard
end Rows
end Go.Proofs.YtgmoeigmcdpkoaaGreatDoor
