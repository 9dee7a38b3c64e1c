/-
  No cell of these rows narrows 'for every input' (looked for: loops, veiled, ifaces, maps, wideKeys, modest, calm, conditions, laid).
  DERIVED. THE GIVEN ROWS OF THIS SEAT. 7 by the template 'for every input the law returns true; each argument reads behind the call as it read before'; 0 by the template 'total and deterministic' (their statements: YthjjbaiijelhnaaTotals.lean).
  GIVEN WITH THE SEED: the statements are not yours to turn. If you find one false, say at which input.
  Laid BY PROGRAM, IN A SANDBOX (cutbox-rows.mjs): the forced cells as the released guide's own fill.sh prints them over the translation fa09a4ca76284be0… (all of the seat's roots in one cut). By AI agents, Wed Nov 11 2026. No macro, syntax, notation, axiom, sorry.
-/
import Derived.Test.YthjjbaiijelhnaaChecked
import GoSem.Claim
import GoSem.ClaimJoined
import GoSem.ClaimMapViews
import Derived.JoinedTies
import Derived.KernelRfl
namespace Go.Proofs.Ythjjbaiijelhnaa
/- THE CELL 'sum', in the pinned program and in every row, IS THE sha256 OF THE DUMP (.gsa) THAT YthjjbaiijelhnaaProg.lean LOADS. Nothing in Lean hashes anything: it is a label: what it is worth is what the hold of that sum in a sandbox is worth. -/
noncomputable def Try.pinned : Pinned := { name := "ythjjbaiijelhnaa", sum := "fa09a4ca76284be072e6918591b2c0241c8d5d1be8819d588c98ef85f77e6e79", checked := Try.checked }
namespace Rows
def none {H : Type} : Left H := { results := [], args := [] }

/-- 'columnsevenlaw30.JournalsBytes': WHATEVER THE INPUT: true; the input reads as it did. -/
def journalsBytesSpec : ChangeSpec := { name := "journalsBytes", fn := fun _ => fun
  | [d1, d2, d3] => { results := [.lit (.bool true)], args := [d1, d2, d3] }
  | _ => none }
def journalsBytesRow : OpenClaim := { program := "ythjjbaiijelhnaa", sum := "fa09a4ca76284be072e6918591b2c0241c8d5d1be8819d588c98ef85f77e6e79", func := "columnseven/columnsevenlaw30.JournalsBytes", spec := "journalsBytes", inPlace := ["maps.clone"], unfollowed := true, recurses := true, apart := false }
def JournalsBytesSaid : Prop := journalsBytesRow.holds Try.pinned (OpenSpec.ofChange journalsBytesSpec)

/-- ITS FALSE NEIGHBOUR: 'it returns false'. Refute it at one input. -/
def journalsBytesWrong : ChangeSpec := { name := "journalsBytes", fn := fun _ => fun
  | [d1, d2, d3] => { results := [.lit (.bool false)], args := [d1, d2, d3] }
  | _ => none }
def JournalsBytesWrongFalsely : Prop := journalsBytesRow.holds Try.pinned (OpenSpec.ofChange journalsBytesWrong)

/-- 'columnsevenlaw30.JournalsImages': WHATEVER THE INPUT: true; the input reads as it did. -/
def journalsImagesSpec : ChangeSpec := { name := "journalsImages", fn := fun _ => fun
  | [d] => { results := [.lit (.bool true)], args := [d] }
  | _ => none }
def journalsImagesRow : OpenClaim := { program := "ythjjbaiijelhnaa", sum := "fa09a4ca76284be072e6918591b2c0241c8d5d1be8819d588c98ef85f77e6e79", func := "columnseven/columnsevenlaw30.JournalsImages", spec := "journalsImages", inPlace := ["maps.clone"], unfollowed := true, recurses := true, apart := false }
def JournalsImagesSaid : Prop := journalsImagesRow.holds Try.pinned (OpenSpec.ofChange journalsImagesSpec)

/-- ITS FALSE NEIGHBOUR: 'it returns false'. Refute it at one input. -/
def journalsImagesWrong : ChangeSpec := { name := "journalsImages", fn := fun _ => fun
  | [d] => { results := [.lit (.bool false)], args := [d] }
  | _ => none }
def JournalsImagesWrongFalsely : Prop := journalsImagesRow.holds Try.pinned (OpenSpec.ofChange journalsImagesWrong)

/-- 'columnsevenlaw30.JournalsErrors': WHATEVER THE INPUT: true; the input reads as it did. -/
def journalsErrorsSpec : ChangeSpec := { name := "journalsErrors", fn := fun _ => fun
  | [d1, d2, d3] => { results := [.lit (.bool true)], args := [d1, d2, d3] }
  | _ => none }
def journalsErrorsRow : OpenClaim := { program := "ythjjbaiijelhnaa", sum := "fa09a4ca76284be072e6918591b2c0241c8d5d1be8819d588c98ef85f77e6e79", func := "columnseven/columnsevenlaw30.JournalsErrors", spec := "journalsErrors", inPlace := ["maps.clone"], unfollowed := true, recurses := true, apart := false }
def JournalsErrorsSaid : Prop := journalsErrorsRow.holds Try.pinned (OpenSpec.ofChange journalsErrorsSpec)

/-- ITS FALSE NEIGHBOUR: 'it returns false'. Refute it at one input. -/
def journalsErrorsWrong : ChangeSpec := { name := "journalsErrors", fn := fun _ => fun
  | [d1, d2, d3] => { results := [.lit (.bool false)], args := [d1, d2, d3] }
  | _ => none }
def JournalsErrorsWrongFalsely : Prop := journalsErrorsRow.holds Try.pinned (OpenSpec.ofChange journalsErrorsWrong)

/-- 'columnsevenlaw30.JournalsCut': WHATEVER THE INPUT: true; the input reads as it did. -/
def journalsCutSpec : ChangeSpec := { name := "journalsCut", fn := fun _ => fun
  | [d1, d2, d3] => { results := [.lit (.bool true)], args := [d1, d2, d3] }
  | _ => none }
def journalsCutRow : OpenClaim := { program := "ythjjbaiijelhnaa", sum := "fa09a4ca76284be072e6918591b2c0241c8d5d1be8819d588c98ef85f77e6e79", func := "columnseven/columnsevenlaw30.JournalsCut", spec := "journalsCut", inPlace := ["maps.clone", "internal/abi.NoEscape", "internal/bytealg.MakeNoZero"], unfollowed := true, recurses := true, apart := false }
def JournalsCutSaid : Prop := journalsCutRow.holds Try.pinned (OpenSpec.ofChange journalsCutSpec)

/-- ITS FALSE NEIGHBOUR: 'it returns false'. Refute it at one input. -/
def journalsCutWrong : ChangeSpec := { name := "journalsCut", fn := fun _ => fun
  | [d1, d2, d3] => { results := [.lit (.bool false)], args := [d1, d2, d3] }
  | _ => none }
def JournalsCutWrongFalsely : Prop := journalsCutRow.holds Try.pinned (OpenSpec.ofChange journalsCutWrong)

/-- 'columnsevenlaw30.JournalsDamage': WHATEVER THE INPUT: true; the input reads as it did. -/
def journalsDamageSpec : ChangeSpec := { name := "journalsDamage", fn := fun _ => fun
  | [d1, d2, d3] => { results := [.lit (.bool true)], args := [d1, d2, d3] }
  | _ => none }
def journalsDamageRow : OpenClaim := { program := "ythjjbaiijelhnaa", sum := "fa09a4ca76284be072e6918591b2c0241c8d5d1be8819d588c98ef85f77e6e79", func := "columnseven/columnsevenlaw30.JournalsDamage", spec := "journalsDamage", inPlace := ["maps.clone", "internal/abi.NoEscape", "internal/bytealg.MakeNoZero"], unfollowed := true, recurses := true, apart := false }
def JournalsDamageSaid : Prop := journalsDamageRow.holds Try.pinned (OpenSpec.ofChange journalsDamageSpec)

/-- ITS FALSE NEIGHBOUR: 'it returns false'. Refute it at one input. -/
def journalsDamageWrong : ChangeSpec := { name := "journalsDamage", fn := fun _ => fun
  | [d1, d2, d3] => { results := [.lit (.bool false)], args := [d1, d2, d3] }
  | _ => none }
def JournalsDamageWrongFalsely : Prop := journalsDamageRow.holds Try.pinned (OpenSpec.ofChange journalsDamageWrong)

/-- 'columnsevenlaw30.JournalsActs': WHATEVER THE INPUT: true; the input reads as it did. -/
def journalsActsSpec : ChangeSpec := { name := "journalsActs", fn := fun _ => fun
  | [d1, d2, d3] => { results := [.lit (.bool true)], args := [d1, d2, d3] }
  | _ => none }
def journalsActsRow : OpenClaim := { program := "ythjjbaiijelhnaa", sum := "fa09a4ca76284be072e6918591b2c0241c8d5d1be8819d588c98ef85f77e6e79", func := "columnseven/columnsevenlaw30.JournalsActs", spec := "journalsActs", inPlace := ["maps.clone", "internal/abi.NoEscape", "internal/bytealg.MakeNoZero"], unfollowed := true, recurses := true, apart := false }
def JournalsActsSaid : Prop := journalsActsRow.holds Try.pinned (OpenSpec.ofChange journalsActsSpec)

/-- ITS FALSE NEIGHBOUR: 'it returns false'. Refute it at one input. -/
def journalsActsWrong : ChangeSpec := { name := "journalsActs", fn := fun _ => fun
  | [d1, d2, d3] => { results := [.lit (.bool false)], args := [d1, d2, d3] }
  | _ => none }
def JournalsActsWrongFalsely : Prop := journalsActsRow.holds Try.pinned (OpenSpec.ofChange journalsActsWrong)

/-- 'columnsevenlaw30.JournalsKnown': WHATEVER THE INPUT: true; the input reads as it did. -/
def journalsKnownSpec : ChangeSpec := { name := "journalsKnown", fn := fun _ => fun
  | [] => { results := [.lit (.bool true)], args := [] }
  | _ => none }
def journalsKnownRow : OpenClaim := { program := "ythjjbaiijelhnaa", sum := "fa09a4ca76284be072e6918591b2c0241c8d5d1be8819d588c98ef85f77e6e79", func := "columnseven/columnsevenlaw30.JournalsKnown", spec := "journalsKnown", inPlace := ["maps.clone", "internal/abi.NoEscape", "internal/bytealg.MakeNoZero"], unfollowed := true, recurses := true, apart := false }
def JournalsKnownSaid : Prop := journalsKnownRow.holds Try.pinned (OpenSpec.ofChange journalsKnownSpec)

/-- ITS FALSE NEIGHBOUR: 'it returns false'. Refute it at one input. -/
def journalsKnownWrong : ChangeSpec := { name := "journalsKnown", fn := fun _ => fun
  | [] => { results := [.lit (.bool false)], args := [] }
  | _ => none }
def JournalsKnownWrongFalsely : Prop := journalsKnownRow.holds Try.pinned (OpenSpec.ofChange journalsKnownWrong)

/- THE SECOND FORM. 'bulk': how many values and letters a reading holds, each counted each time it is reached (what is shared counts as often as it is met; a slice's spare places count too). A statement '..UptoSaid' is the law's where the arguments, and the package variables that the reading takes, are together of bulk at most 1048576: NARROWER than '..Said'. Prove '..Said' where nothing that the law and all that it calls make is longer than what came in: it says more and counts as full. Else prove '..UptoSaid'. A law counts once. -/
mutual
def uptoBulk {H : Type} : DataW H → Nat
  | .lit (.string bytes) => bytes.length + 1
  | .lit _ => 1
  | .nil => 1
  | .ptr d => uptoBulk d + 1
  | .slice elems spare => uptoBulkAll elems + uptoBulkAll spare + 1
  | .agg parts => uptoBulkAll parts + 1
  | .iface _ d => uptoBulk d + 1
  | .map entries => uptoBulkEntries entries + 1
  | .held _ => 1
def uptoBulkAll {H : Type} : List (DataW H) → Nat
  | [] => 0
  | d :: r => uptoBulk d + uptoBulkAll r
def uptoBulkEntries {H : Type} : List (Lit × DataW H) → Nat
  | [] => 0
  | x :: r => uptoBulkEntry x + uptoBulkEntries r
def uptoBulkEntry {H : Type} : Lit × DataW H → Nat
  | (.string bytes, d) => bytes.length + uptoBulk d + 1
  | (_, d) => uptoBulk d + 1
 end
def uptoSmall : (H : Type) → List (DataW H) → Bool := fun _ ds => decide (uptoBulkAll ds ≤ 1048576)
def OpenSpec.upto (s : _root_.Go.ChangeSpec) : _root_.Go.OpenSpec := { _root_.Go.OpenSpec.ofChange s with cond := some uptoSmall }

/-- 'columnsevenlaw30.JournalsBytes', WHERE WHAT IT READS IS OF BULK AT MOST 1048576: true; the input reads as it did. -/
def journalsBytesUptoRow : OpenClaim := { program := "ythjjbaiijelhnaa", sum := "fa09a4ca76284be072e6918591b2c0241c8d5d1be8819d588c98ef85f77e6e79", func := "columnseven/columnsevenlaw30.JournalsBytes", spec := "journalsBytes", inPlace := ["maps.clone"], unfollowed := true, recurses := true, apart := false, narrowed := true }
def JournalsBytesUptoSaid : Prop := journalsBytesUptoRow.holds Try.pinned (OpenSpec.upto journalsBytesSpec)

/-- 'columnsevenlaw30.JournalsImages', WHERE WHAT IT READS IS OF BULK AT MOST 1048576: true; the input reads as it did. -/
def journalsImagesUptoRow : OpenClaim := { program := "ythjjbaiijelhnaa", sum := "fa09a4ca76284be072e6918591b2c0241c8d5d1be8819d588c98ef85f77e6e79", func := "columnseven/columnsevenlaw30.JournalsImages", spec := "journalsImages", inPlace := ["maps.clone"], unfollowed := true, recurses := true, apart := false, narrowed := true }
def JournalsImagesUptoSaid : Prop := journalsImagesUptoRow.holds Try.pinned (OpenSpec.upto journalsImagesSpec)

/-- 'columnsevenlaw30.JournalsErrors', WHERE WHAT IT READS IS OF BULK AT MOST 1048576: true; the input reads as it did. -/
def journalsErrorsUptoRow : OpenClaim := { program := "ythjjbaiijelhnaa", sum := "fa09a4ca76284be072e6918591b2c0241c8d5d1be8819d588c98ef85f77e6e79", func := "columnseven/columnsevenlaw30.JournalsErrors", spec := "journalsErrors", inPlace := ["maps.clone"], unfollowed := true, recurses := true, apart := false, narrowed := true }
def JournalsErrorsUptoSaid : Prop := journalsErrorsUptoRow.holds Try.pinned (OpenSpec.upto journalsErrorsSpec)

/-- 'columnsevenlaw30.JournalsCut', WHERE WHAT IT READS IS OF BULK AT MOST 1048576: true; the input reads as it did. -/
def journalsCutUptoRow : OpenClaim := { program := "ythjjbaiijelhnaa", sum := "fa09a4ca76284be072e6918591b2c0241c8d5d1be8819d588c98ef85f77e6e79", func := "columnseven/columnsevenlaw30.JournalsCut", spec := "journalsCut", inPlace := ["maps.clone", "internal/abi.NoEscape", "internal/bytealg.MakeNoZero"], unfollowed := true, recurses := true, apart := false, narrowed := true }
def JournalsCutUptoSaid : Prop := journalsCutUptoRow.holds Try.pinned (OpenSpec.upto journalsCutSpec)

/-- 'columnsevenlaw30.JournalsDamage', WHERE WHAT IT READS IS OF BULK AT MOST 1048576: true; the input reads as it did. -/
def journalsDamageUptoRow : OpenClaim := { program := "ythjjbaiijelhnaa", sum := "fa09a4ca76284be072e6918591b2c0241c8d5d1be8819d588c98ef85f77e6e79", func := "columnseven/columnsevenlaw30.JournalsDamage", spec := "journalsDamage", inPlace := ["maps.clone", "internal/abi.NoEscape", "internal/bytealg.MakeNoZero"], unfollowed := true, recurses := true, apart := false, narrowed := true }
def JournalsDamageUptoSaid : Prop := journalsDamageUptoRow.holds Try.pinned (OpenSpec.upto journalsDamageSpec)

/-- 'columnsevenlaw30.JournalsActs', WHERE WHAT IT READS IS OF BULK AT MOST 1048576: true; the input reads as it did. -/
def journalsActsUptoRow : OpenClaim := { program := "ythjjbaiijelhnaa", sum := "fa09a4ca76284be072e6918591b2c0241c8d5d1be8819d588c98ef85f77e6e79", func := "columnseven/columnsevenlaw30.JournalsActs", spec := "journalsActs", inPlace := ["maps.clone", "internal/abi.NoEscape", "internal/bytealg.MakeNoZero"], unfollowed := true, recurses := true, apart := false, narrowed := true }
def JournalsActsUptoSaid : Prop := journalsActsUptoRow.holds Try.pinned (OpenSpec.upto journalsActsSpec)

/-- 'columnsevenlaw30.JournalsKnown', WHERE WHAT IT READS IS OF BULK AT MOST 1048576: true; the input reads as it did. -/
def journalsKnownUptoRow : OpenClaim := { program := "ythjjbaiijelhnaa", sum := "fa09a4ca76284be072e6918591b2c0241c8d5d1be8819d588c98ef85f77e6e79", func := "columnseven/columnsevenlaw30.JournalsKnown", spec := "journalsKnown", inPlace := ["maps.clone", "internal/abi.NoEscape", "internal/bytealg.MakeNoZero"], unfollowed := true, recurses := true, apart := false, narrowed := true }
def JournalsKnownUptoSaid : Prop := journalsKnownUptoRow.holds Try.pinned (OpenSpec.upto journalsKnownSpec)

end Rows
end Go.Proofs.Ythjjbaiijelhnaa
