/-
  DERIVED. GIVEN WITH THE SEED: THE CARDS: each row of YtnpddjmjdpgohaaGreatDoorRows.lean that lists a variable, with what it lists TIED to the program's text (the seventh form; the later family's looks); each row that meets fmt, with fmt's text TOLD by the authors' own Lean function (tested against real Go, not proved from fmt's source: count such statements apart). THE CARD IS WHAT COUNTS. Prove the row's statement (the work); the ties are given (YtnpddjmjdpgohaaGreatDoorTie.lean); close each card by the builder's one call (the guide's Derived/Test/ToyasCard.lean, 'card_holds'). Laid BY PROGRAM, IN A SANDBOX (cutbox-door.mjs). By AI agents, Wed Nov 11 2026. No macro, syntax, notation, axiom, sorry.
-/
import Derived.Test.YtnpddjmjdpgohaaGreatDoorRows
import GoSem.ClaimSeven
namespace Go.Proofs.YtnpddjmjdpgohaaGreatDoor
namespace Rows

/-- THE TIED CARD OF 'watchwordlaw28.LockoutCounts'. -/
def lockoutCountsCard : Claim7 := { stood := { row := lockoutCountsRow, standIns := [], harness := (true, "943d21ac4076d198a1a90f5f323a6f8c880e39858d1e77c287705b6f0a0d81e6"), looks := false }, kinds := [], alts := [], laidByText := true, laidKinds := [.data, .data, .data, .pinned], laidTests := true, laidLooks := .later }
def LockoutCountsCardSaid : Prop := Claim7.holds Tryz.pinned (.plain (OpenSpec.ofChange lockoutCountsSpec)) lockoutCountsCard

/-- THE TIED CARD OF 'watchwordlaw28.LockoutAccounts'. -/
def lockoutAccountsCard : Claim7 := { stood := { row := lockoutAccountsRow, standIns := [], harness := (true, "943d21ac4076d198a1a90f5f323a6f8c880e39858d1e77c287705b6f0a0d81e6"), looks := false }, kinds := [], alts := [], laidByText := true, laidKinds := [.data, .data, .data, .pinned], laidTests := true, laidLooks := .later }
def LockoutAccountsCardSaid : Prop := Claim7.holds Tryz.pinned (.plain (OpenSpec.ofChange lockoutAccountsSpec)) lockoutAccountsCard

/-- THE SECOND FORM's CARD OF 'watchwordlaw28.LockoutCounts'. -/
def lockoutCountsUptoCard : Claim7 := { stood := { row := lockoutCountsUptoRow, standIns := [], harness := (true, "943d21ac4076d198a1a90f5f323a6f8c880e39858d1e77c287705b6f0a0d81e6"), looks := false }, kinds := [], alts := [], laidByText := true, laidKinds := [.data, .data, .data, .pinned], laidTests := true, laidLooks := .later }
def LockoutCountsUptoCardSaid : Prop := Claim7.holds Tryz.pinned (.plain (OpenSpec.upto lockoutCountsSpec)) lockoutCountsUptoCard

/-- THE SECOND FORM's CARD OF 'watchwordlaw28.LockoutAccounts'. -/
def lockoutAccountsUptoCard : Claim7 := { stood := { row := lockoutAccountsUptoRow, standIns := [], harness := (true, "943d21ac4076d198a1a90f5f323a6f8c880e39858d1e77c287705b6f0a0d81e6"), looks := false }, kinds := [], alts := [], laidByText := true, laidKinds := [.data, .data, .data, .pinned], laidTests := true, laidLooks := .later }
def LockoutAccountsUptoCardSaid : Prop := Claim7.holds Tryz.pinned (.plain (OpenSpec.upto lockoutAccountsSpec)) lockoutAccountsUptoCard
end Rows
end Go.Proofs.YtnpddjmjdpgohaaGreatDoor
