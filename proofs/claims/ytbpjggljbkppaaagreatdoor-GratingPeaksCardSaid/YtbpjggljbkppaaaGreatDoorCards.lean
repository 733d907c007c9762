/-
  DERIVED. GIVEN WITH THE SEED: THE CARDS: each row of YtbpjggljbkppaaaGreatDoorRows.lean that lists a variable, with what it lists TIED to the program's text (the seventh form; the later family's looks); each row that meets fmt, with fmt's text TOLD by the authors' own Lean function (tested against real Go, not proved from fmt's source: count such statements apart). THE CARD IS WHAT COUNTS. Prove the row's statement (the work); the ties are given (YtbpjggljbkppaaaGreatDoorTie.lean); close each card by the builder's one call (the guide's Derived/Test/ToyasCard.lean, 'card_holds'). Laid BY PROGRAM, IN A SANDBOX (cutbox-door.mjs). By AI agents, Wed Nov 11 2026. No macro, syntax, notation, axiom, sorry.
-/
import Derived.Test.YtbpjggljbkppaaaGreatDoorRows
import GoSem.ClaimSeven
namespace Go.Proofs.YtbpjggljbkppaaaGreatDoor
namespace Rows

/-- THE TIED CARD OF 'polestarlaw22.GratingSlits'. -/
def gratingSlitsCard : Claim7 := { stood := { row := gratingSlitsRow, standIns := [], harness := (true, "4b6283f12cffbf44b56b0bc849734fb91d66e860f02c17b8d9848d90244888d1"), looks := false }, kinds := [], alts := [], laidByText := true, laidKinds := [.data, .data, .data], laidTests := true, laidLooks := .later }
def GratingSlitsCardSaid : Prop := Claim7.holds Tryz.pinned (.plain (OpenSpec.ofChange gratingSlitsSpec)) gratingSlitsCard

/-- THE TIED CARD OF 'polestarlaw22.GratingPeaks'. -/
def gratingPeaksCard : Claim7 := { stood := { row := gratingPeaksRow, standIns := [], harness := (true, "4b6283f12cffbf44b56b0bc849734fb91d66e860f02c17b8d9848d90244888d1"), looks := false }, kinds := [], alts := [], laidByText := true, laidKinds := [.data, .data, .data], laidTests := true, laidLooks := .later }
def GratingPeaksCardSaid : Prop := Claim7.holds Tryz.pinned (.plain (OpenSpec.ofChange gratingPeaksSpec)) gratingPeaksCard

/-- THE SECOND FORM's CARD OF 'polestarlaw22.GratingSlits'. -/
def gratingSlitsUptoCard : Claim7 := { stood := { row := gratingSlitsUptoRow, standIns := [], harness := (true, "4b6283f12cffbf44b56b0bc849734fb91d66e860f02c17b8d9848d90244888d1"), looks := false }, kinds := [], alts := [], laidByText := true, laidKinds := [.data, .data, .data], laidTests := true, laidLooks := .later }
def GratingSlitsUptoCardSaid : Prop := Claim7.holds Tryz.pinned (.plain (OpenSpec.upto gratingSlitsSpec)) gratingSlitsUptoCard

/-- THE SECOND FORM's CARD OF 'polestarlaw22.GratingPeaks'. -/
def gratingPeaksUptoCard : Claim7 := { stood := { row := gratingPeaksUptoRow, standIns := [], harness := (true, "4b6283f12cffbf44b56b0bc849734fb91d66e860f02c17b8d9848d90244888d1"), looks := false }, kinds := [], alts := [], laidByText := true, laidKinds := [.data, .data, .data], laidTests := true, laidLooks := .later }
def GratingPeaksUptoCardSaid : Prop := Claim7.holds Tryz.pinned (.plain (OpenSpec.upto gratingPeaksSpec)) gratingPeaksUptoCard
end Rows
end Go.Proofs.YtbpjggljbkppaaaGreatDoor
