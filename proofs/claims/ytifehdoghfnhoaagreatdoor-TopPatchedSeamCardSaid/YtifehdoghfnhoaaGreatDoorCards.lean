/-
  DERIVED. GIVEN WITH THE SEED: THE CARDS: each row of YtifehdoghfnhoaaGreatDoorRows.lean that lists a variable, with what it lists TIED to the program's text (the seventh form; the later family's looks); each row that meets fmt, with fmt's text TOLD by the authors' own Lean function (tested against real Go, not proved from fmt's source: count such statements apart). THE CARD IS WHAT COUNTS. Prove the row's statement (the work); the ties are given (YtifehdoghfnhoaaGreatDoorTie.lean); close each card by the builder's one call (the guide's Derived/Test/ToyasCard.lean, 'card_holds'). Laid BY PROGRAM, IN A SANDBOX (cutbox-door.mjs). By AI agents, Wed Nov 11 2026. No macro, syntax, notation, axiom, sorry.
-/
import Derived.Test.YtifehdoghfnhoaaGreatDoorRows
import GoSem.ClaimSeven
namespace Go.Proofs.YtifehdoghfnhoaaGreatDoor
namespace Rows

/-- THE TIED CARD OF 'crossbandtop.TopSteamedPatch'. -/
def topSteamedPatchCard : Claim7 := { stood := { row := topSteamedPatchRow, standIns := [], harness := (true, "12ef0ba9616d4bf29a786a4aee8daade7c59b0e5a8810bd0abaac1505725de9b"), looks := false }, kinds := [], alts := [], laidByText := true, laidKinds := [.data, .pinned], laidTests := true, laidLooks := .later }
def TopSteamedPatchCardSaid : Prop := Claim7.holds Tryz.pinned (.plain (OpenSpec.ofChange topSteamedPatchSpec)) topSteamedPatchCard

/-- THE TIED CARD OF 'crossbandtop.TopPatchedSeam'. -/
def topPatchedSeamCard : Claim7 := { stood := { row := topPatchedSeamRow, standIns := [], harness := (true, "12ef0ba9616d4bf29a786a4aee8daade7c59b0e5a8810bd0abaac1505725de9b"), looks := false }, kinds := [], alts := [], laidByText := true, laidKinds := [.data, .pinned], laidTests := true, laidLooks := .later }
def TopPatchedSeamCardSaid : Prop := Claim7.holds Tryz.pinned (.plain (OpenSpec.ofChange topPatchedSeamSpec)) topPatchedSeamCard

/-- THE SECOND FORM's CARD OF 'crossbandtop.TopSteamedPatch'. -/
def topSteamedPatchUptoCard : Claim7 := { stood := { row := topSteamedPatchUptoRow, standIns := [], harness := (true, "12ef0ba9616d4bf29a786a4aee8daade7c59b0e5a8810bd0abaac1505725de9b"), looks := false }, kinds := [], alts := [], laidByText := true, laidKinds := [.data, .pinned], laidTests := true, laidLooks := .later }
def TopSteamedPatchUptoCardSaid : Prop := Claim7.holds Tryz.pinned (.plain (OpenSpec.upto topSteamedPatchSpec)) topSteamedPatchUptoCard

/-- THE SECOND FORM's CARD OF 'crossbandtop.TopPatchedSeam'. -/
def topPatchedSeamUptoCard : Claim7 := { stood := { row := topPatchedSeamUptoRow, standIns := [], harness := (true, "12ef0ba9616d4bf29a786a4aee8daade7c59b0e5a8810bd0abaac1505725de9b"), looks := false }, kinds := [], alts := [], laidByText := true, laidKinds := [.data, .pinned], laidTests := true, laidLooks := .later }
def TopPatchedSeamUptoCardSaid : Prop := Claim7.holds Tryz.pinned (.plain (OpenSpec.upto topPatchedSeamSpec)) topPatchedSeamUptoCard
end Rows
end Go.Proofs.YtifehdoghfnhoaaGreatDoor
