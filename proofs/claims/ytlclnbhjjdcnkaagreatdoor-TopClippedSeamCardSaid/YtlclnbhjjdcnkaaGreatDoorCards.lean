/-
  DERIVED. GIVEN WITH THE SEED: THE CARDS: each row of YtlclnbhjjdcnkaaGreatDoorRows.lean that lists a variable, with what it lists TIED to the program's text (the seventh form; the later family's looks); each row that meets fmt, with fmt's text TOLD by the authors' own Lean function (tested against real Go, not proved from fmt's source: count such statements apart). THE CARD IS WHAT COUNTS. Prove the row's statement (the work); the ties are given (YtlclnbhjjdcnkaaGreatDoorTie.lean); close each card by the builder's one call (the guide's Derived/Test/ToyasCard.lean, 'card_holds'). Laid BY PROGRAM, IN A SANDBOX (cutbox-door.mjs). By AI agents, Wed Nov 11 2026. No macro, syntax, notation, axiom, sorry.
-/
import Derived.Test.YtlclnbhjjdcnkaaGreatDoorRows
import GoSem.ClaimSeven
namespace Go.Proofs.YtlclnbhjjdcnkaaGreatDoor
namespace Rows

/-- THE TIED CARD OF 'crossbandtop.TopClippedSeam'. -/
def topClippedSeamCard : Claim7 := { stood := { row := topClippedSeamRow, standIns := [], harness := (true, "8b3e16e6afe4edd5a3389b6448de26288a55c45c421f984663d0f9ebbf54fbd9"), looks := false }, kinds := [], alts := [], laidByText := true, laidKinds := [.data, .pinned], laidTests := true, laidLooks := .later }
def TopClippedSeamCardSaid : Prop := Claim7.holds Tryz.pinned (.plain (OpenSpec.ofChange topClippedSeamSpec)) topClippedSeamCard

/-- THE TIED CARD OF 'crossbandtop.TopPatchedSeam'. -/
def topPatchedSeamCard : Claim7 := { stood := { row := topPatchedSeamRow, standIns := [], harness := (true, "8b3e16e6afe4edd5a3389b6448de26288a55c45c421f984663d0f9ebbf54fbd9"), looks := false }, kinds := [], alts := [], laidByText := true, laidKinds := [.data, .pinned], laidTests := true, laidLooks := .later }
def TopPatchedSeamCardSaid : Prop := Claim7.holds Tryz.pinned (.plain (OpenSpec.ofChange topPatchedSeamSpec)) topPatchedSeamCard

/-- THE SECOND FORM's CARD OF 'crossbandtop.TopClippedSeam'. -/
def topClippedSeamUptoCard : Claim7 := { stood := { row := topClippedSeamUptoRow, standIns := [], harness := (true, "8b3e16e6afe4edd5a3389b6448de26288a55c45c421f984663d0f9ebbf54fbd9"), looks := false }, kinds := [], alts := [], laidByText := true, laidKinds := [.data, .pinned], laidTests := true, laidLooks := .later }
def TopClippedSeamUptoCardSaid : Prop := Claim7.holds Tryz.pinned (.plain (OpenSpec.upto topClippedSeamSpec)) topClippedSeamUptoCard

/-- THE SECOND FORM's CARD OF 'crossbandtop.TopPatchedSeam'. -/
def topPatchedSeamUptoCard : Claim7 := { stood := { row := topPatchedSeamUptoRow, standIns := [], harness := (true, "8b3e16e6afe4edd5a3389b6448de26288a55c45c421f984663d0f9ebbf54fbd9"), looks := false }, kinds := [], alts := [], laidByText := true, laidKinds := [.data, .pinned], laidTests := true, laidLooks := .later }
def TopPatchedSeamUptoCardSaid : Prop := Claim7.holds Tryz.pinned (.plain (OpenSpec.upto topPatchedSeamSpec)) topPatchedSeamUptoCard
end Rows
end Go.Proofs.YtlclnbhjjdcnkaaGreatDoor
