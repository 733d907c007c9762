/-
  DERIVED. GIVEN WITH THE SEED: THE CARDS: each row of YtjelnmokcpoofaaGreatDoorRows.lean that lists a variable, with what it lists TIED to the program's text (the seventh form; the later family's looks); each row that meets fmt, with fmt's text TOLD by the authors' own Lean function (tested against real Go, not proved from fmt's source: count such statements apart). THE CARD IS WHAT COUNTS. Prove the row's statement (the work); the ties are given (YtjelnmokcpoofaaGreatDoorTie.lean); close each card by the builder's one call (the guide's Derived/Test/ToyasCard.lean, 'card_holds'). Laid BY PROGRAM, IN A SANDBOX (cutbox-door.mjs). By AI agents, Wed Nov 11 2026. No macro, syntax, notation, axiom, sorry.
-/
import Derived.Test.YtjelnmokcpoofaaGreatDoorRows
import GoSem.ClaimSeven
namespace Go.Proofs.YtjelnmokcpoofaaGreatDoor
namespace Rows

/-- THE TIED CARD OF 'polestarlaw25.CatalogTexts'. -/
def catalogTextsCard : Claim7 := { stood := { row := catalogTextsRow, standIns := [], harness := (true, "11b475471612dbc005dea37cc95e2be7c884d4fd64db966b4fd98ee8ab90749a"), looks := true }, kinds := [], alts := [], laidByText := true, laidKinds := [.data, .data, .data, .data, .sentinel, .sentinel, .pinned], laidTests := true, laidLooks := .later }
def CatalogTextsCardSaid : Prop := Claim7.holds Tryz.pinned (.plain (OpenSpec.ofChange catalogTextsSpec)) catalogTextsCard

/-- THE TIED CARD OF 'polestarlaw25.CatalogBack'. -/
def catalogBackCard : Claim7 := { stood := { row := catalogBackRow, standIns := [], harness := (true, "11b475471612dbc005dea37cc95e2be7c884d4fd64db966b4fd98ee8ab90749a"), looks := true }, kinds := [], alts := [], laidByText := true, laidKinds := [.data, .data, .data, .data, .sentinel, .sentinel, .pinned], laidTests := true, laidLooks := .later }
def CatalogBackCardSaid : Prop := Claim7.holds Tryz.pinned (.plain (OpenSpec.ofChange catalogBackSpec)) catalogBackCard

/-- THE SECOND FORM's CARD OF 'polestarlaw25.CatalogTexts'. -/
def catalogTextsUptoCard : Claim7 := { stood := { row := catalogTextsUptoRow, standIns := [], harness := (true, "11b475471612dbc005dea37cc95e2be7c884d4fd64db966b4fd98ee8ab90749a"), looks := true }, kinds := [], alts := [], laidByText := true, laidKinds := [.data, .data, .data, .data, .sentinel, .sentinel, .pinned], laidTests := true, laidLooks := .later }
def CatalogTextsUptoCardSaid : Prop := Claim7.holds Tryz.pinned (.plain (OpenSpec.upto catalogTextsSpec)) catalogTextsUptoCard

/-- THE SECOND FORM's CARD OF 'polestarlaw25.CatalogBack'. -/
def catalogBackUptoCard : Claim7 := { stood := { row := catalogBackUptoRow, standIns := [], harness := (true, "11b475471612dbc005dea37cc95e2be7c884d4fd64db966b4fd98ee8ab90749a"), looks := true }, kinds := [], alts := [], laidByText := true, laidKinds := [.data, .data, .data, .data, .sentinel, .sentinel, .pinned], laidTests := true, laidLooks := .later }
def CatalogBackUptoCardSaid : Prop := Claim7.holds Tryz.pinned (.plain (OpenSpec.upto catalogBackSpec)) catalogBackUptoCard
end Rows
end Go.Proofs.YtjelnmokcpoofaaGreatDoor
