/-
  DERIVED. GIVEN WITH THE SEED: THE CARDS: each row of YthompldjfobobaaGreatDoorRows.lean that lists a variable, with what it lists TIED to the program's text (the seventh form; the later family's looks); each row that meets fmt, with fmt's text TOLD by the authors' own Lean function (tested against real Go, not proved from fmt's source: count such statements apart). THE CARD IS WHAT COUNTS. Prove the row's statement (the work); the ties are given (YthompldjfobobaaGreatDoorTie.lean); close each card by the builder's one call (the guide's Derived/Test/ToyasCard.lean, 'card_holds'). Laid BY PROGRAM, IN A SANDBOX (cutbox-door.mjs). By AI agents, Wed Nov 11 2026. No macro, syntax, notation, axiom, sorry.
-/
import Derived.Test.YthompldjfobobaaGreatDoorRows
import GoSem.ClaimSeven
namespace Go.Proofs.YthompldjfobobaaGreatDoor
namespace Rows

/-- THE TIED CARD OF 'watchwordlaw28.LockoutCounts'. -/
def lockoutCountsCard : Claim7 := { stood := { row := lockoutCountsRow, standIns := [], harness := (true, "d777f95944ddb323ee016ba067b6786de7a2f87562f632126b1b5f2d9ef5b515"), looks := false }, kinds := [], alts := [], laidByText := true, laidKinds := [.data, .data, .data, .pinned], laidTests := true, laidLooks := .later }
def LockoutCountsCardSaid : Prop := Claim7.holds Tryz.pinned (.plain (OpenSpec.ofChange lockoutCountsSpec)) lockoutCountsCard

/-- THE TIED CARD OF 'watchwordlaw28.LockoutNone'. -/
def lockoutNoneCard : Claim7 := { stood := { row := lockoutNoneRow, standIns := [], harness := (true, "d777f95944ddb323ee016ba067b6786de7a2f87562f632126b1b5f2d9ef5b515"), looks := false }, kinds := [], alts := [], laidByText := true, laidKinds := [.data, .data, .data, .pinned], laidTests := true, laidLooks := .later }
def LockoutNoneCardSaid : Prop := Claim7.holds Tryz.pinned (.plain (OpenSpec.ofChange lockoutNoneSpec)) lockoutNoneCard

/-- THE SECOND FORM's CARD OF 'watchwordlaw28.LockoutCounts'. -/
def lockoutCountsUptoCard : Claim7 := { stood := { row := lockoutCountsUptoRow, standIns := [], harness := (true, "d777f95944ddb323ee016ba067b6786de7a2f87562f632126b1b5f2d9ef5b515"), looks := false }, kinds := [], alts := [], laidByText := true, laidKinds := [.data, .data, .data, .pinned], laidTests := true, laidLooks := .later }
def LockoutCountsUptoCardSaid : Prop := Claim7.holds Tryz.pinned (.plain (OpenSpec.upto lockoutCountsSpec)) lockoutCountsUptoCard

/-- THE SECOND FORM's CARD OF 'watchwordlaw28.LockoutNone'. -/
def lockoutNoneUptoCard : Claim7 := { stood := { row := lockoutNoneUptoRow, standIns := [], harness := (true, "d777f95944ddb323ee016ba067b6786de7a2f87562f632126b1b5f2d9ef5b515"), looks := false }, kinds := [], alts := [], laidByText := true, laidKinds := [.data, .data, .data, .pinned], laidTests := true, laidLooks := .later }
def LockoutNoneUptoCardSaid : Prop := Claim7.holds Tryz.pinned (.plain (OpenSpec.upto lockoutNoneSpec)) lockoutNoneUptoCard
end Rows
end Go.Proofs.YthompldjfobobaaGreatDoor
