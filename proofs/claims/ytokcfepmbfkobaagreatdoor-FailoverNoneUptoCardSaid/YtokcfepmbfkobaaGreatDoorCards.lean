/-
  DERIVED. GIVEN WITH THE SEED: THE CARDS: each row of YtokcfepmbfkobaaGreatDoorRows.lean that lists a variable, with what it lists TIED to the program's text (the seventh form; the later family's looks); each row that meets fmt, with fmt's text TOLD by the authors' own Lean function (tested against real Go, not proved from fmt's source: count such statements apart). THE CARD IS WHAT COUNTS. Prove the row's statement (the work); the ties are given (YtokcfepmbfkobaaGreatDoorTie.lean); close each card by the builder's one call (the guide's Derived/Test/ToyasCard.lean, 'card_holds'). Laid BY PROGRAM, IN A SANDBOX (cutbox-door.mjs). By AI agents, Wed Nov 11 2026. No macro, syntax, notation, axiom, sorry.
-/
import Derived.Test.YtokcfepmbfkobaaGreatDoorRows
import GoSem.ClaimSeven
namespace Go.Proofs.YtokcfepmbfkobaaGreatDoor
namespace Rows

/-- THE TIED CARD OF 'watchwordlaw31.FailoverNone'. -/
def failoverNoneCard : Claim7 := { stood := { row := failoverNoneRow, standIns := [], harness := (true, "f835bc2accef648e1ad4c42614a9c1443349057333ad4d2f716daa198d91470d"), looks := true }, kinds := [], alts := [], laidByText := true, laidKinds := [.data, .data, .data, .data, .data, .data, .pinned], laidTests := true, laidLooks := .later }
def FailoverNoneCardSaid : Prop := Claim7.holds Tryz.pinned (.plain (OpenSpec.ofChange failoverNoneSpec)) failoverNoneCard

/-- THE SECOND FORM's CARD OF 'watchwordlaw31.FailoverNone'. -/
def failoverNoneUptoCard : Claim7 := { stood := { row := failoverNoneUptoRow, standIns := [], harness := (true, "f835bc2accef648e1ad4c42614a9c1443349057333ad4d2f716daa198d91470d"), looks := true }, kinds := [], alts := [], laidByText := true, laidKinds := [.data, .data, .data, .data, .data, .data, .pinned], laidTests := true, laidLooks := .later }
def FailoverNoneUptoCardSaid : Prop := Claim7.holds Tryz.pinned (.plain (OpenSpec.upto failoverNoneSpec)) failoverNoneUptoCard
end Rows
end Go.Proofs.YtokcfepmbfkobaaGreatDoor
