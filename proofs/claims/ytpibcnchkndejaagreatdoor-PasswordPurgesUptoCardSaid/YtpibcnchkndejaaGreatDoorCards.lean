/-
  DERIVED. GIVEN WITH THE SEED: THE CARDS: each row of YtpibcnchkndejaaGreatDoorRows.lean that lists a variable, with what it lists TIED to the program's text (the seventh form; the later family's looks); each row that meets fmt, with fmt's text TOLD by the authors' own Lean function (tested against real Go, not proved from fmt's source: count such statements apart). THE CARD IS WHAT COUNTS. Prove the row's statement (the work); the ties are given (YtpibcnchkndejaaGreatDoorTie.lean); close each card by the builder's one call (the guide's Derived/Test/ToyasCard.lean, 'card_holds'). Laid BY PROGRAM, IN A SANDBOX (cutbox-door.mjs). By AI agents, Wed Nov 11 2026. No macro, syntax, notation, axiom, sorry.
-/
import Derived.Test.YtpibcnchkndejaaGreatDoorRows
import GoSem.ClaimSeven
namespace Go.Proofs.YtpibcnchkndejaaGreatDoor
namespace Rows

/-- THE TIED CARD OF 'watchwordlaw27.PasswordPurges'. -/
def passwordPurgesCard : Claim7 := { stood := { row := passwordPurgesRow, standIns := [], harness := (true, "bc0890e971df7ce2b9aab5407b36054c8a27fad017dfbe3c691efe75d6702e05"), looks := false }, kinds := [], alts := [], laidByText := true, laidKinds := [.data, .data, .data, .pinned], laidTests := true, laidLooks := .later }
def PasswordPurgesCardSaid : Prop := Claim7.holds Tryz.pinned (.plain (OpenSpec.ofChange passwordPurgesSpec)) passwordPurgesCard

/-- THE TIED CARD OF 'watchwordlaw27.PasswordNone'. -/
def passwordNoneCard : Claim7 := { stood := { row := passwordNoneRow, standIns := [], harness := (true, "bc0890e971df7ce2b9aab5407b36054c8a27fad017dfbe3c691efe75d6702e05"), looks := false }, kinds := [], alts := [], laidByText := true, laidKinds := [.data, .data, .data, .pinned], laidTests := true, laidLooks := .later }
def PasswordNoneCardSaid : Prop := Claim7.holds Tryz.pinned (.plain (OpenSpec.ofChange passwordNoneSpec)) passwordNoneCard

/-- THE SECOND FORM's CARD OF 'watchwordlaw27.PasswordPurges'. -/
def passwordPurgesUptoCard : Claim7 := { stood := { row := passwordPurgesUptoRow, standIns := [], harness := (true, "bc0890e971df7ce2b9aab5407b36054c8a27fad017dfbe3c691efe75d6702e05"), looks := false }, kinds := [], alts := [], laidByText := true, laidKinds := [.data, .data, .data, .pinned], laidTests := true, laidLooks := .later }
def PasswordPurgesUptoCardSaid : Prop := Claim7.holds Tryz.pinned (.plain (OpenSpec.upto passwordPurgesSpec)) passwordPurgesUptoCard

/-- THE SECOND FORM's CARD OF 'watchwordlaw27.PasswordNone'. -/
def passwordNoneUptoCard : Claim7 := { stood := { row := passwordNoneUptoRow, standIns := [], harness := (true, "bc0890e971df7ce2b9aab5407b36054c8a27fad017dfbe3c691efe75d6702e05"), looks := false }, kinds := [], alts := [], laidByText := true, laidKinds := [.data, .data, .data, .pinned], laidTests := true, laidLooks := .later }
def PasswordNoneUptoCardSaid : Prop := Claim7.holds Tryz.pinned (.plain (OpenSpec.upto passwordNoneSpec)) passwordNoneUptoCard
end Rows
end Go.Proofs.YtpibcnchkndejaaGreatDoor
