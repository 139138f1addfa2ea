/-
  DERIVED. GIVEN WITH THE SEED: THE CARDS: each row of YtknppbjbnpddaaaGreatDoorRows.lean that lists a variable, with what it lists TIED to the program's text (the seventh form; the later family's looks); each row that meets fmt, with fmt's text TOLD by the authors' own Lean function (tested against real Go, not proved from fmt's source: count such statements apart). THE CARD IS WHAT COUNTS. Prove the row's statement (the work); the ties are given (YtknppbjbnpddaaaGreatDoorTie.lean); close each card by the builder's one call (the guide's Derived/Test/ToyasCard.lean, 'card_holds'). Laid BY PROGRAM, IN A SANDBOX (cutbox-door.mjs). By AI agents, Wed Nov 11 2026. No macro, syntax, notation, axiom, sorry.
-/
import Derived.Test.YtknppbjbnpddaaaGreatDoorRows
import GoSem.ClaimSeven
namespace Go.Proofs.YtknppbjbnpddaaaGreatDoor
namespace Rows

/-- THE TIED CARD OF 'watchwordlaw28.LockoutCounts'. -/
def lockoutCountsCard : Claim7 := { stood := { row := lockoutCountsRow, standIns := [], harness := (true, "59e0beaabf9532e497ebba1c3e80e3763b7d6442afdb99e48ab0632a18700b21"), looks := false }, kinds := [], alts := [], laidByText := true, laidKinds := [.data, .data, .data, .pinned], laidTests := true, laidLooks := .later }
def LockoutCountsCardSaid : Prop := Claim7.holds Tryz.pinned (.plain (OpenSpec.ofChange lockoutCountsSpec)) lockoutCountsCard

/-- THE TIED CARD OF 'watchwordlaw28.LockoutAttempts'. -/
def lockoutAttemptsCard : Claim7 := { stood := { row := lockoutAttemptsRow, standIns := [], harness := (true, "59e0beaabf9532e497ebba1c3e80e3763b7d6442afdb99e48ab0632a18700b21"), looks := false }, kinds := [], alts := [], laidByText := true, laidKinds := [.data, .data, .data, .pinned], laidTests := true, laidLooks := .later }
def LockoutAttemptsCardSaid : Prop := Claim7.holds Tryz.pinned (.plain (OpenSpec.ofChange lockoutAttemptsSpec)) lockoutAttemptsCard

/-- THE TIED CARD OF 'watchwordlaw28.LockoutHolds'. -/
def lockoutHoldsCard : Claim7 := { stood := { row := lockoutHoldsRow, standIns := [], harness := (true, "59e0beaabf9532e497ebba1c3e80e3763b7d6442afdb99e48ab0632a18700b21"), looks := false }, kinds := [], alts := [], laidByText := true, laidKinds := [.data, .data, .data, .pinned], laidTests := true, laidLooks := .later }
def LockoutHoldsCardSaid : Prop := Claim7.holds Tryz.pinned (.plain (OpenSpec.ofChange lockoutHoldsSpec)) lockoutHoldsCard

/-- THE SECOND FORM's CARD OF 'watchwordlaw28.LockoutCounts'. -/
def lockoutCountsUptoCard : Claim7 := { stood := { row := lockoutCountsUptoRow, standIns := [], harness := (true, "59e0beaabf9532e497ebba1c3e80e3763b7d6442afdb99e48ab0632a18700b21"), looks := false }, kinds := [], alts := [], laidByText := true, laidKinds := [.data, .data, .data, .pinned], laidTests := true, laidLooks := .later }
def LockoutCountsUptoCardSaid : Prop := Claim7.holds Tryz.pinned (.plain (OpenSpec.upto lockoutCountsSpec)) lockoutCountsUptoCard

/-- THE SECOND FORM's CARD OF 'watchwordlaw28.LockoutAttempts'. -/
def lockoutAttemptsUptoCard : Claim7 := { stood := { row := lockoutAttemptsUptoRow, standIns := [], harness := (true, "59e0beaabf9532e497ebba1c3e80e3763b7d6442afdb99e48ab0632a18700b21"), looks := false }, kinds := [], alts := [], laidByText := true, laidKinds := [.data, .data, .data, .pinned], laidTests := true, laidLooks := .later }
def LockoutAttemptsUptoCardSaid : Prop := Claim7.holds Tryz.pinned (.plain (OpenSpec.upto lockoutAttemptsSpec)) lockoutAttemptsUptoCard

/-- THE SECOND FORM's CARD OF 'watchwordlaw28.LockoutHolds'. -/
def lockoutHoldsUptoCard : Claim7 := { stood := { row := lockoutHoldsUptoRow, standIns := [], harness := (true, "59e0beaabf9532e497ebba1c3e80e3763b7d6442afdb99e48ab0632a18700b21"), looks := false }, kinds := [], alts := [], laidByText := true, laidKinds := [.data, .data, .data, .pinned], laidTests := true, laidLooks := .later }
def LockoutHoldsUptoCardSaid : Prop := Claim7.holds Tryz.pinned (.plain (OpenSpec.upto lockoutHoldsSpec)) lockoutHoldsUptoCard
end Rows
end Go.Proofs.YtknppbjbnpddaaaGreatDoor
