/-
  DERIVED. GIVEN WITH THE SEED: THE CARDS: each row of YthbialpbkpiekaaGreatDoorRows.lean that lists a variable, with what it lists TIED to the program's text (the seventh form; the later family's looks); each row that meets fmt, with fmt's text TOLD by the authors' own Lean function (tested against real Go, not proved from fmt's source: count such statements apart). THE CARD IS WHAT COUNTS. Prove the row's statement (the work); the ties are given (YthbialpbkpiekaaGreatDoorTie.lean); close each card by the builder's one call (the guide's Derived/Test/ToyasCard.lean, 'card_holds'). Laid BY PROGRAM, IN A SANDBOX (cutbox-door.mjs). By AI agents, Wed Nov 11 2026. No macro, syntax, notation, axiom, sorry.
-/
import Derived.Test.YthbialpbkpiekaaGreatDoorRows
import GoSem.ClaimSeven
namespace Go.Proofs.YthbialpbkpiekaaGreatDoor
namespace Rows

/-- THE TIED CARD OF 'watchwordlaw30.ReplicaRounds'. -/
def replicaRoundsCard : Claim7 := { stood := { row := replicaRoundsRow, standIns := [], harness := (true, "3c2fbdd7ce90de3385cf7f83dc5d38ea8b7d81c3f87bc5b13d2f588199f510c9"), looks := true }, kinds := [], alts := [], laidByText := true, laidKinds := [.data, .data, .data, .data, .sentinel, .sentinel, .data, .data, .pinned], laidTests := true, laidLooks := .later }
def ReplicaRoundsCardSaid : Prop := Claim7.holds Tryz.pinned (.plain (OpenSpec.ofChange replicaRoundsSpec)) replicaRoundsCard

/-- THE SECOND FORM's CARD OF 'watchwordlaw30.ReplicaRounds'. -/
def replicaRoundsUptoCard : Claim7 := { stood := { row := replicaRoundsUptoRow, standIns := [], harness := (true, "3c2fbdd7ce90de3385cf7f83dc5d38ea8b7d81c3f87bc5b13d2f588199f510c9"), looks := true }, kinds := [], alts := [], laidByText := true, laidKinds := [.data, .data, .data, .data, .sentinel, .sentinel, .data, .data, .pinned], laidTests := true, laidLooks := .later }
def ReplicaRoundsUptoCardSaid : Prop := Claim7.holds Tryz.pinned (.plain (OpenSpec.upto replicaRoundsSpec)) replicaRoundsUptoCard
end Rows
end Go.Proofs.YthbialpbkpiekaaGreatDoor
