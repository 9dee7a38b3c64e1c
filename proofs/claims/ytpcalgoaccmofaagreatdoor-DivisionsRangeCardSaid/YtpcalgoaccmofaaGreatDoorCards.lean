/-
  DERIVED. GIVEN WITH THE SEED: THE CARDS: each row of YtpcalgoaccmofaaGreatDoorRows.lean that lists a variable, with what it lists TIED to the program's text (the seventh form; the later family's looks); each row that meets fmt, with fmt's text TOLD by the authors' own Lean function (tested against real Go, not proved from fmt's source: count such statements apart). THE CARD IS WHAT COUNTS. Prove the row's statement (the work); the ties are given (YtpcalgoaccmofaaGreatDoorTie.lean); close each card by the builder's one call (the guide's Derived/Test/ToyasCard.lean, 'card_holds'). Laid BY PROGRAM, IN A SANDBOX (cutbox-door.mjs). By AI agents, Wed Nov 11 2026. No macro, syntax, notation, axiom, sorry.
-/
import Derived.Test.YtpcalgoaccmofaaGreatDoorRows
import GoSem.ClaimSeven
namespace Go.Proofs.YtpcalgoaccmofaaGreatDoor
namespace Rows

/-- THE TIED CARD OF 'columnsevenlaw08.DivisionsRange'. -/
def divisionsRangeCard : Claim7 := { stood := { row := divisionsRangeRow, standIns := [], harness := (true, "9030f52548fe2802fac7ea91572bfbf499f99c6166dfe0cade8ec5615762c9f5"), looks := true }, kinds := [], alts := [], laidByText := true, laidKinds := [.data, .data, .data, .data, .sentinel, .sentinel, .listed, .data, .data, .pinned], laidTests := true, laidLooks := .later }
def DivisionsRangeCardSaid : Prop := Claim7.holds Tryz.pinned (.plain (OpenSpec.ofChange divisionsRangeSpec)) divisionsRangeCard

/-- THE SECOND FORM's CARD OF 'columnsevenlaw08.DivisionsRange'. -/
def divisionsRangeUptoCard : Claim7 := { stood := { row := divisionsRangeUptoRow, standIns := [], harness := (true, "9030f52548fe2802fac7ea91572bfbf499f99c6166dfe0cade8ec5615762c9f5"), looks := true }, kinds := [], alts := [], laidByText := true, laidKinds := [.data, .data, .data, .data, .sentinel, .sentinel, .listed, .data, .data, .pinned], laidTests := true, laidLooks := .later }
def DivisionsRangeUptoCardSaid : Prop := Claim7.holds Tryz.pinned (.plain (OpenSpec.upto divisionsRangeSpec)) divisionsRangeUptoCard
end Rows
end Go.Proofs.YtpcalgoaccmofaaGreatDoor
