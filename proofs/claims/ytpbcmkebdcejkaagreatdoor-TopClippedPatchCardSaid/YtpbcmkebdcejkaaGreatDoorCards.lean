/-
  DERIVED. GIVEN WITH THE SEED: THE CARDS: each row of YtpbcmkebdcejkaaGreatDoorRows.lean that lists a variable, with what it lists TIED to the program's text (the seventh form; the later family's looks); each row that meets fmt, with fmt's text TOLD by the authors' own Lean function (tested against real Go, not proved from fmt's source: count such statements apart). THE CARD IS WHAT COUNTS. Prove the row's statement (the work); the ties are given (YtpbcmkebdcejkaaGreatDoorTie.lean); close each card by the builder's one call (the guide's Derived/Test/ToyasCard.lean, 'card_holds'). Laid BY PROGRAM, IN A SANDBOX (cutbox-door.mjs). By AI agents, Wed Nov 11 2026. No macro, syntax, notation, axiom, sorry.
-/
import Derived.Test.YtpbcmkebdcejkaaGreatDoorRows
import GoSem.ClaimSeven
namespace Go.Proofs.YtpbcmkebdcejkaaGreatDoor
namespace Rows

/-- THE TIED CARD OF 'crossbandtop.TopClippedPatch'. -/
def topClippedPatchCard : Claim7 := { stood := { row := topClippedPatchRow, standIns := [], harness := (true, "d53223ebb2a7177fc62ea8d053dfe72c234a50fd3d5ae86ed6af3441ab392886"), looks := false }, kinds := [], alts := [], laidByText := true, laidKinds := [.data, .pinned], laidTests := true, laidLooks := .later }
def TopClippedPatchCardSaid : Prop := Claim7.holds Tryz.pinned (.plain (OpenSpec.ofChange topClippedPatchSpec)) topClippedPatchCard

/-- THE SECOND FORM's CARD OF 'crossbandtop.TopClippedPatch'. -/
def topClippedPatchUptoCard : Claim7 := { stood := { row := topClippedPatchUptoRow, standIns := [], harness := (true, "d53223ebb2a7177fc62ea8d053dfe72c234a50fd3d5ae86ed6af3441ab392886"), looks := false }, kinds := [], alts := [], laidByText := true, laidKinds := [.data, .pinned], laidTests := true, laidLooks := .later }
def TopClippedPatchUptoCardSaid : Prop := Claim7.holds Tryz.pinned (.plain (OpenSpec.upto topClippedPatchSpec)) topClippedPatchUptoCard
end Rows
end Go.Proofs.YtpbcmkebdcejkaaGreatDoor
