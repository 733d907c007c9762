/-
  DERIVED. GIVEN WITH THE SEED: THE CARDS: each row of YtkkfgphcmnhabaaGreatDoorRows.lean that lists a variable, with what it lists TIED to the program's text (the seventh form; the later family's looks); each row that meets fmt, with fmt's text TOLD by the authors' own Lean function (tested against real Go, not proved from fmt's source: count such statements apart). THE CARD IS WHAT COUNTS. Prove the row's statement (the work); the ties are given (YtkkfgphcmnhabaaGreatDoorTie.lean); close each card by the builder's one call (the guide's Derived/Test/ToyasCard.lean, 'card_holds'). Laid BY PROGRAM, IN A SANDBOX (cutbox-door.mjs). By AI agents, Wed Nov 11 2026. No macro, syntax, notation, axiom, sorry.
-/
import Derived.Test.YtkkfgphcmnhabaaGreatDoorRows
import GoSem.ClaimSeven
namespace Go.Proofs.YtkkfgphcmnhabaaGreatDoor
namespace Rows

/-- THE TIED CARD OF 'polestarlaw25.CatalogHolds'. -/
def catalogHoldsCard : Claim7 := { stood := { row := catalogHoldsRow, standIns := [], harness := (true, "467df2a577e183530582c2fd9acd448e9f1fb72ebd22692cbfb33fd2037bf1eb"), looks := true }, kinds := [], alts := [], laidByText := true, laidKinds := [.data, .data, .data, .data, .sentinel, .sentinel, .pinned], laidTests := true, laidLooks := .later }
def CatalogHoldsCardSaid : Prop := Claim7.holds Tryz.pinned (.plain (OpenSpec.ofChange catalogHoldsSpec)) catalogHoldsCard

/-- THE TIED CARD OF 'polestarlaw25.CatalogNearest'. -/
def catalogNearestCard : Claim7 := { stood := { row := catalogNearestRow, standIns := [], harness := (true, "467df2a577e183530582c2fd9acd448e9f1fb72ebd22692cbfb33fd2037bf1eb"), looks := true }, kinds := [], alts := [], laidByText := true, laidKinds := [.data, .data, .data, .data, .sentinel, .sentinel, .pinned], laidTests := true, laidLooks := .later }
def CatalogNearestCardSaid : Prop := Claim7.holds Tryz.pinned (.plain (OpenSpec.ofChange catalogNearestSpec)) catalogNearestCard

/-- THE SECOND FORM's CARD OF 'polestarlaw25.CatalogHolds'. -/
def catalogHoldsUptoCard : Claim7 := { stood := { row := catalogHoldsUptoRow, standIns := [], harness := (true, "467df2a577e183530582c2fd9acd448e9f1fb72ebd22692cbfb33fd2037bf1eb"), looks := true }, kinds := [], alts := [], laidByText := true, laidKinds := [.data, .data, .data, .data, .sentinel, .sentinel, .pinned], laidTests := true, laidLooks := .later }
def CatalogHoldsUptoCardSaid : Prop := Claim7.holds Tryz.pinned (.plain (OpenSpec.upto catalogHoldsSpec)) catalogHoldsUptoCard

/-- THE SECOND FORM's CARD OF 'polestarlaw25.CatalogNearest'. -/
def catalogNearestUptoCard : Claim7 := { stood := { row := catalogNearestUptoRow, standIns := [], harness := (true, "467df2a577e183530582c2fd9acd448e9f1fb72ebd22692cbfb33fd2037bf1eb"), looks := true }, kinds := [], alts := [], laidByText := true, laidKinds := [.data, .data, .data, .data, .sentinel, .sentinel, .pinned], laidTests := true, laidLooks := .later }
def CatalogNearestUptoCardSaid : Prop := Claim7.holds Tryz.pinned (.plain (OpenSpec.upto catalogNearestSpec)) catalogNearestUptoCard
end Rows
end Go.Proofs.YtkkfgphcmnhabaaGreatDoor
