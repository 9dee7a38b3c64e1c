/-
  DERIVED. GIVEN WITH THE SEED: THE CARDS: each row of YtihonmpkfhchbaaGreatDoorRows.lean that lists a variable, with what it lists TIED to the program's text (the seventh form; the later family's looks); each row that meets fmt, with fmt's text TOLD by the authors' own Lean function (tested against real Go, not proved from fmt's source: count such statements apart). THE CARD IS WHAT COUNTS. Prove the row's statement (the work); the ties are given (YtihonmpkfhchbaaGreatDoorTie.lean); close each card by the builder's one call (the guide's Derived/Test/ToyasCard.lean, 'card_holds'). Laid BY PROGRAM, IN A SANDBOX (cutbox-door.mjs). By AI agents, Wed Nov 11 2026. No macro, syntax, notation, axiom, sorry.
-/
import Derived.Test.YtihonmpkfhchbaaGreatDoorRows
import GoSem.ClaimSeven
namespace Go.Proofs.YtihonmpkfhchbaaGreatDoor
namespace Rows

/-- THE TIED CARD OF 'columnsevenlaw10.PlacesDeep'. -/
def placesDeepCard : Claim7 := { stood := { row := placesDeepRow, standIns := [], harness := (true, "f6814b2ae33ff237251216143acf7da44e594aa2a55434100b74d9113710f322"), looks := true }, kinds := [], alts := [], laidByText := true, laidKinds := [.data, .data, .data, .data, .sentinel, .sentinel, .listed, .data, .data, .pinned], laidTests := true, laidLooks := .later }
def PlacesDeepCardSaid : Prop := Claim7.holds Tryz.pinned (.plain (OpenSpec.ofChange placesDeepSpec)) placesDeepCard

/-- THE SECOND FORM's CARD OF 'columnsevenlaw10.PlacesDeep'. -/
def placesDeepUptoCard : Claim7 := { stood := { row := placesDeepUptoRow, standIns := [], harness := (true, "f6814b2ae33ff237251216143acf7da44e594aa2a55434100b74d9113710f322"), looks := true }, kinds := [], alts := [], laidByText := true, laidKinds := [.data, .data, .data, .data, .sentinel, .sentinel, .listed, .data, .data, .pinned], laidTests := true, laidLooks := .later }
def PlacesDeepUptoCardSaid : Prop := Claim7.holds Tryz.pinned (.plain (OpenSpec.upto placesDeepSpec)) placesDeepUptoCard
end Rows
end Go.Proofs.YtihonmpkfhchbaaGreatDoor
