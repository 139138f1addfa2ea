/-
  DERIVED. GIVEN WITH THE SEED: THE CARDS: each row of YtpfifochimkpfaaGreatDoorRows.lean that lists a variable, with what it lists TIED to the program's text (the seventh form; the later family's looks); each row that meets fmt, with fmt's text TOLD by the authors' own Lean function (tested against real Go, not proved from fmt's source: count such statements apart). THE CARD IS WHAT COUNTS. Prove the row's statement (the work); the ties are given (YtpfifochimkpfaaGreatDoorTie.lean); close each card by the builder's one call (the guide's Derived/Test/ToyasCard.lean, 'card_holds'). Laid BY PROGRAM, IN A SANDBOX (cutbox-door.mjs). By AI agents, Wed Nov 11 2026. No macro, syntax, notation, axiom, sorry.
-/
import Derived.Test.YtpfifochimkpfaaGreatDoorRows
import GoSem.ClaimSeven
namespace Go.Proofs.YtpfifochimkpfaaGreatDoor
namespace Rows

/-- THE TIED CARD OF 'watchwordlaw28.LockoutRecords'. -/
def lockoutRecordsCard : Claim7 := { stood := { row := lockoutRecordsRow, standIns := [], harness := (true, "7dac495ba481c90a845e13a74d48a78eb78a002fd4c41547cc664efb4a7fe33a"), looks := false }, kinds := [], alts := [], laidByText := true, laidKinds := [.data, .data, .data, .data, .data, .data, .pinned], laidTests := true, laidLooks := .later }
def LockoutRecordsCardSaid : Prop := Claim7.holds Tryz.pinned (.plain (OpenSpec.ofChange lockoutRecordsSpec)) lockoutRecordsCard

/-- THE SECOND FORM's CARD OF 'watchwordlaw28.LockoutRecords'. -/
def lockoutRecordsUptoCard : Claim7 := { stood := { row := lockoutRecordsUptoRow, standIns := [], harness := (true, "7dac495ba481c90a845e13a74d48a78eb78a002fd4c41547cc664efb4a7fe33a"), looks := false }, kinds := [], alts := [], laidByText := true, laidKinds := [.data, .data, .data, .data, .data, .data, .pinned], laidTests := true, laidLooks := .later }
def LockoutRecordsUptoCardSaid : Prop := Claim7.holds Tryz.pinned (.plain (OpenSpec.upto lockoutRecordsSpec)) lockoutRecordsUptoCard
end Rows
end Go.Proofs.YtpfifochimkpfaaGreatDoor
