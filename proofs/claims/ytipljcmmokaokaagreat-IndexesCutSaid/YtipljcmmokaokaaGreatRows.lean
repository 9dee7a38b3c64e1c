/-
  No cell of these rows narrows 'for every input' (looked for: loops, veiled, ifaces, maps, wideKeys, modest, calm, conditions, laid).
  DERIVED. THE GIVEN ROWS OF THIS SEAT. 5 by the template 'for every input the law returns true; each argument reads behind the call as it read before'; 0 by the template 'total and deterministic' (their statements: YtipljcmmokaokaaGreatTotals.lean).
  GIVEN WITH THE SEED: the statements are not yours to turn. If you find one false, say at which input.
  Laid BY PROGRAM, IN A SANDBOX (cutbox-rows.mjs): the forced cells as the released guide's own fill.sh prints them over the translation d84cdff0850e0f50… (all of the seat's roots in one cut). By AI agents, Wed Nov 11 2026. No macro, syntax, notation, axiom, sorry.
-/
import Derived.Test.YtipljcmmokaokaaGreatChecked
import GoSem.Claim
import GoSem.ClaimJoined
import GoSem.ClaimMapViews
import Derived.JoinedTies
import Derived.KernelRfl
namespace Go.Proofs.YtipljcmmokaokaaGreat
/- THE CELL 'sum', in the pinned program and in every row, IS THE sha256 OF THE DUMP (.gsa) THAT YtipljcmmokaokaaGreatProg.lean LOADS. Nothing in Lean hashes anything: it is a label: what it is worth is what the hold of that sum in a sandbox is worth. -/
noncomputable def Tryz.pinned : Pinned := { name := "ytipljcmmokaokaagreat", sum := "d84cdff0850e0f50816344575e74a158e6061d888f2bbb0f8b11e4de98eda51d", checked := Tryz.checked }
namespace Rows
def none {H : Type} : Left H := { results := [], args := [] }

/-- 'columnsevenlaw32.IndexesOrder': WHATEVER THE INPUT: true; the input reads as it did. -/
def indexesOrderSpec : ChangeSpec := { name := "indexesOrder", fn := fun _ => fun
  | [d1, d2] => { results := [.lit (.bool true)], args := [d1, d2] }
  | _ => none }
def indexesOrderRow : OpenClaim := { program := "ytipljcmmokaokaagreat", sum := "d84cdff0850e0f50816344575e74a158e6061d888f2bbb0f8b11e4de98eda51d", func := "columnseven/columnsevenlaw32.IndexesOrder", spec := "indexesOrder", inPlace := ["internal/bytealg.IndexByteString", "internal/bytealg.IndexString", "maps.clone", "internal/abi.NoEscape", "internal/bytealg.MakeNoZero", "internal/bytealg.abigen_runtime_cmpstring"], unfollowed := true, recurses := true, named := ["internal/bytealg.MaxLen"], apart := false }
def IndexesOrderSaid : Prop := indexesOrderRow.holds Tryz.pinned (OpenSpec.ofChange indexesOrderSpec)

/-- ITS FALSE NEIGHBOUR: 'it returns false'. Refute it at one input. -/
def indexesOrderWrong : ChangeSpec := { name := "indexesOrder", fn := fun _ => fun
  | [d1, d2] => { results := [.lit (.bool false)], args := [d1, d2] }
  | _ => none }
def IndexesOrderWrongFalsely : Prop := indexesOrderRow.holds Tryz.pinned (OpenSpec.ofChange indexesOrderWrong)

/-- 'columnsevenlaw32.IndexesActs': WHATEVER THE INPUT: true; the input reads as it did. -/
def indexesActsSpec : ChangeSpec := { name := "indexesActs", fn := fun _ => fun
  | [d] => { results := [.lit (.bool true)], args := [d] }
  | _ => none }
def indexesActsRow : OpenClaim := { program := "ytipljcmmokaokaagreat", sum := "d84cdff0850e0f50816344575e74a158e6061d888f2bbb0f8b11e4de98eda51d", func := "columnseven/columnsevenlaw32.IndexesActs", spec := "indexesActs", inPlace := ["internal/bytealg.IndexByteString", "internal/bytealg.IndexString", "maps.clone", "internal/abi.NoEscape", "internal/bytealg.MakeNoZero", "internal/bytealg.abigen_runtime_cmpstring"], unfollowed := true, recurses := true, named := ["internal/bytealg.MaxLen"], apart := false }
def IndexesActsSaid : Prop := indexesActsRow.holds Tryz.pinned (OpenSpec.ofChange indexesActsSpec)

/-- ITS FALSE NEIGHBOUR: 'it returns false'. Refute it at one input. -/
def indexesActsWrong : ChangeSpec := { name := "indexesActs", fn := fun _ => fun
  | [d] => { results := [.lit (.bool false)], args := [d] }
  | _ => none }
def IndexesActsWrongFalsely : Prop := indexesActsRow.holds Tryz.pinned (OpenSpec.ofChange indexesActsWrong)

/-- 'columnsevenlaw32.IndexesErrors': WHATEVER THE INPUT: true; the input reads as it did. -/
def indexesErrorsSpec : ChangeSpec := { name := "indexesErrors", fn := fun _ => fun
  | [d1, d2] => { results := [.lit (.bool true)], args := [d1, d2] }
  | _ => none }
def indexesErrorsRow : OpenClaim := { program := "ytipljcmmokaokaagreat", sum := "d84cdff0850e0f50816344575e74a158e6061d888f2bbb0f8b11e4de98eda51d", func := "columnseven/columnsevenlaw32.IndexesErrors", spec := "indexesErrors", inPlace := ["internal/bytealg.IndexByteString", "internal/bytealg.IndexString", "maps.clone", "internal/abi.NoEscape", "internal/bytealg.MakeNoZero", "internal/bytealg.abigen_runtime_cmpstring"], unfollowed := true, recurses := true, named := ["internal/bytealg.MaxLen"], apart := false }
def IndexesErrorsSaid : Prop := indexesErrorsRow.holds Tryz.pinned (OpenSpec.ofChange indexesErrorsSpec)

/-- ITS FALSE NEIGHBOUR: 'it returns false'. Refute it at one input. -/
def indexesErrorsWrong : ChangeSpec := { name := "indexesErrors", fn := fun _ => fun
  | [d1, d2] => { results := [.lit (.bool false)], args := [d1, d2] }
  | _ => none }
def IndexesErrorsWrongFalsely : Prop := indexesErrorsRow.holds Tryz.pinned (OpenSpec.ofChange indexesErrorsWrong)

/-- 'columnsevenlaw32.IndexesCut': WHATEVER THE INPUT: true; the input reads as it did. -/
def indexesCutSpec : ChangeSpec := { name := "indexesCut", fn := fun _ => fun
  | [d1, d2, d3] => { results := [.lit (.bool true)], args := [d1, d2, d3] }
  | _ => none }
def indexesCutRow : OpenClaim := { program := "ytipljcmmokaokaagreat", sum := "d84cdff0850e0f50816344575e74a158e6061d888f2bbb0f8b11e4de98eda51d", func := "columnseven/columnsevenlaw32.IndexesCut", spec := "indexesCut", inPlace := ["internal/bytealg.IndexByteString", "internal/bytealg.IndexString", "maps.clone", "internal/abi.NoEscape", "internal/bytealg.MakeNoZero", "internal/bytealg.abigen_runtime_cmpstring"], unfollowed := true, recurses := true, named := ["internal/bytealg.MaxLen"], apart := false }
def IndexesCutSaid : Prop := indexesCutRow.holds Tryz.pinned (OpenSpec.ofChange indexesCutSpec)

/-- ITS FALSE NEIGHBOUR: 'it returns false'. Refute it at one input. -/
def indexesCutWrong : ChangeSpec := { name := "indexesCut", fn := fun _ => fun
  | [d1, d2, d3] => { results := [.lit (.bool false)], args := [d1, d2, d3] }
  | _ => none }
def IndexesCutWrongFalsely : Prop := indexesCutRow.holds Tryz.pinned (OpenSpec.ofChange indexesCutWrong)

/-- 'columnsevenlaw32.IndexesKnown': WHATEVER THE INPUT: true; the input reads as it did. -/
def indexesKnownSpec : ChangeSpec := { name := "indexesKnown", fn := fun _ => fun
  | [] => { results := [.lit (.bool true)], args := [] }
  | _ => none }
def indexesKnownRow : OpenClaim := { program := "ytipljcmmokaokaagreat", sum := "d84cdff0850e0f50816344575e74a158e6061d888f2bbb0f8b11e4de98eda51d", func := "columnseven/columnsevenlaw32.IndexesKnown", spec := "indexesKnown", inPlace := ["internal/bytealg.IndexByteString", "internal/bytealg.IndexString", "maps.clone", "internal/abi.NoEscape", "internal/bytealg.MakeNoZero", "internal/bytealg.abigen_runtime_cmpstring"], unfollowed := true, recurses := true, named := ["internal/bytealg.MaxLen"], apart := false }
def IndexesKnownSaid : Prop := indexesKnownRow.holds Tryz.pinned (OpenSpec.ofChange indexesKnownSpec)

/-- ITS FALSE NEIGHBOUR: 'it returns false'. Refute it at one input. -/
def indexesKnownWrong : ChangeSpec := { name := "indexesKnown", fn := fun _ => fun
  | [] => { results := [.lit (.bool false)], args := [] }
  | _ => none }
def IndexesKnownWrongFalsely : Prop := indexesKnownRow.holds Tryz.pinned (OpenSpec.ofChange indexesKnownWrong)

/- THE SECOND FORM. 'bulk': how many values and letters a reading holds, each counted each time it is reached (what is shared counts as often as it is met; a slice's spare places count too). A statement '..UptoSaid' is the law's where the arguments, and the package variables that the reading takes, are together of bulk at most 1048576: NARROWER than '..Said'. Prove '..Said' where nothing that the law and all that it calls make is longer than what came in: it says more and counts as full. Else prove '..UptoSaid'. A law counts once. -/
mutual
def uptoBulk {H : Type} : DataW H → Nat
  | .lit (.string bytes) => bytes.length + 1
  | .lit _ => 1
  | .nil => 1
  | .ptr d => uptoBulk d + 1
  | .slice elems spare => uptoBulkAll elems + uptoBulkAll spare + 1
  | .agg parts => uptoBulkAll parts + 1
  | .iface _ d => uptoBulk d + 1
  | .map entries => uptoBulkEntries entries + 1
  | .held _ => 1
def uptoBulkAll {H : Type} : List (DataW H) → Nat
  | [] => 0
  | d :: r => uptoBulk d + uptoBulkAll r
def uptoBulkEntries {H : Type} : List (Lit × DataW H) → Nat
  | [] => 0
  | x :: r => uptoBulkEntry x + uptoBulkEntries r
def uptoBulkEntry {H : Type} : Lit × DataW H → Nat
  | (.string bytes, d) => bytes.length + uptoBulk d + 1
  | (_, d) => uptoBulk d + 1
 end
def uptoSmall : (H : Type) → List (DataW H) → Bool := fun _ ds => decide (uptoBulkAll ds ≤ 1048576)
def OpenSpec.upto (s : _root_.Go.ChangeSpec) : _root_.Go.OpenSpec := { _root_.Go.OpenSpec.ofChange s with cond := some uptoSmall }

/-- 'columnsevenlaw32.IndexesOrder', WHERE WHAT IT READS IS OF BULK AT MOST 1048576: true; the input reads as it did. -/
def indexesOrderUptoRow : OpenClaim := { program := "ytipljcmmokaokaagreat", sum := "d84cdff0850e0f50816344575e74a158e6061d888f2bbb0f8b11e4de98eda51d", func := "columnseven/columnsevenlaw32.IndexesOrder", spec := "indexesOrder", inPlace := ["internal/bytealg.IndexByteString", "internal/bytealg.IndexString", "maps.clone", "internal/abi.NoEscape", "internal/bytealg.MakeNoZero", "internal/bytealg.abigen_runtime_cmpstring"], unfollowed := true, recurses := true, named := ["internal/bytealg.MaxLen"], apart := false, narrowed := true }
def IndexesOrderUptoSaid : Prop := indexesOrderUptoRow.holds Tryz.pinned (OpenSpec.upto indexesOrderSpec)

/-- 'columnsevenlaw32.IndexesActs', WHERE WHAT IT READS IS OF BULK AT MOST 1048576: true; the input reads as it did. -/
def indexesActsUptoRow : OpenClaim := { program := "ytipljcmmokaokaagreat", sum := "d84cdff0850e0f50816344575e74a158e6061d888f2bbb0f8b11e4de98eda51d", func := "columnseven/columnsevenlaw32.IndexesActs", spec := "indexesActs", inPlace := ["internal/bytealg.IndexByteString", "internal/bytealg.IndexString", "maps.clone", "internal/abi.NoEscape", "internal/bytealg.MakeNoZero", "internal/bytealg.abigen_runtime_cmpstring"], unfollowed := true, recurses := true, named := ["internal/bytealg.MaxLen"], apart := false, narrowed := true }
def IndexesActsUptoSaid : Prop := indexesActsUptoRow.holds Tryz.pinned (OpenSpec.upto indexesActsSpec)

/-- 'columnsevenlaw32.IndexesErrors', WHERE WHAT IT READS IS OF BULK AT MOST 1048576: true; the input reads as it did. -/
def indexesErrorsUptoRow : OpenClaim := { program := "ytipljcmmokaokaagreat", sum := "d84cdff0850e0f50816344575e74a158e6061d888f2bbb0f8b11e4de98eda51d", func := "columnseven/columnsevenlaw32.IndexesErrors", spec := "indexesErrors", inPlace := ["internal/bytealg.IndexByteString", "internal/bytealg.IndexString", "maps.clone", "internal/abi.NoEscape", "internal/bytealg.MakeNoZero", "internal/bytealg.abigen_runtime_cmpstring"], unfollowed := true, recurses := true, named := ["internal/bytealg.MaxLen"], apart := false, narrowed := true }
def IndexesErrorsUptoSaid : Prop := indexesErrorsUptoRow.holds Tryz.pinned (OpenSpec.upto indexesErrorsSpec)

/-- 'columnsevenlaw32.IndexesCut', WHERE WHAT IT READS IS OF BULK AT MOST 1048576: true; the input reads as it did. -/
def indexesCutUptoRow : OpenClaim := { program := "ytipljcmmokaokaagreat", sum := "d84cdff0850e0f50816344575e74a158e6061d888f2bbb0f8b11e4de98eda51d", func := "columnseven/columnsevenlaw32.IndexesCut", spec := "indexesCut", inPlace := ["internal/bytealg.IndexByteString", "internal/bytealg.IndexString", "maps.clone", "internal/abi.NoEscape", "internal/bytealg.MakeNoZero", "internal/bytealg.abigen_runtime_cmpstring"], unfollowed := true, recurses := true, named := ["internal/bytealg.MaxLen"], apart := false, narrowed := true }
def IndexesCutUptoSaid : Prop := indexesCutUptoRow.holds Tryz.pinned (OpenSpec.upto indexesCutSpec)

/-- 'columnsevenlaw32.IndexesKnown', WHERE WHAT IT READS IS OF BULK AT MOST 1048576: true; the input reads as it did. -/
def indexesKnownUptoRow : OpenClaim := { program := "ytipljcmmokaokaagreat", sum := "d84cdff0850e0f50816344575e74a158e6061d888f2bbb0f8b11e4de98eda51d", func := "columnseven/columnsevenlaw32.IndexesKnown", spec := "indexesKnown", inPlace := ["internal/bytealg.IndexByteString", "internal/bytealg.IndexString", "maps.clone", "internal/abi.NoEscape", "internal/bytealg.MakeNoZero", "internal/bytealg.abigen_runtime_cmpstring"], unfollowed := true, recurses := true, named := ["internal/bytealg.MaxLen"], apart := false, narrowed := true }
def IndexesKnownUptoSaid : Prop := indexesKnownUptoRow.holds Tryz.pinned (OpenSpec.upto indexesKnownSpec)

end Rows
end Go.Proofs.YtipljcmmokaokaaGreat
