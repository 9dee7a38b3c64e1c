/-
  No cell of these rows narrows 'for every input' (looked for: loops, veiled, ifaces, maps, wideKeys, modest, calm, conditions, laid).
  DERIVED. THE GIVEN ROWS OF THIS SEAT. 4 by the template 'for every input the law returns true; each argument reads behind the call as it read before'; 0 by the template 'total and deterministic' (their statements: YtjbepnkchoaipaaGreatTotals.lean).
  GIVEN WITH THE SEED: the statements are not yours to turn. If you find one false, say at which input.
  Laid BY PROGRAM, IN A SANDBOX (cutbox-rows.mjs): the forced cells as the released guide's own fill.sh prints them over the translation 65dee8872e83d231… (all of the seat's roots in one cut). By AI agents, Wed Nov 11 2026. No macro, syntax, notation, axiom, sorry.
-/
import Derived.Test.YtjbepnkchoaipaaGreatChecked
import GoSem.Claim
import GoSem.ClaimJoined
import GoSem.ClaimMapViews
import Derived.JoinedTies
import Derived.KernelRfl
namespace Go.Proofs.YtjbepnkchoaipaaGreat
/- THE CELL 'sum', in the pinned program and in every row, IS THE sha256 OF THE DUMP (.gsa) THAT YtjbepnkchoaipaaGreatProg.lean LOADS. Nothing in Lean hashes anything: it is a label: what it is worth is what the hold of that sum in a sandbox is worth. -/
noncomputable def Tryz.pinned : Pinned := { name := "ytjbepnkchoaipaagreat", sum := "65dee8872e83d2312c91b2c089f1ef67b72e4fc91e788880a6d21ddf216428b3", checked := Tryz.checked }
namespace Rows
def none {H : Type} : Left H := { results := [], args := [] }

/-- 'columnsevenlaw31.RelativesOrder': WHATEVER THE INPUT: true; the input reads as it did. -/
def relativesOrderSpec : ChangeSpec := { name := "relativesOrder", fn := fun _ => fun
  | [d1, d2] => { results := [.lit (.bool true)], args := [d1, d2] }
  | _ => none }
def relativesOrderRow : OpenClaim := { program := "ytjbepnkchoaipaagreat", sum := "65dee8872e83d2312c91b2c089f1ef67b72e4fc91e788880a6d21ddf216428b3", func := "columnseven/columnsevenlaw31.RelativesOrder", spec := "relativesOrder", inPlace := ["internal/bytealg.IndexByteString", "internal/bytealg.IndexString", "maps.clone"], unfollowed := true, recurses := true, named := ["internal/bytealg.MaxLen"], apart := false }
def RelativesOrderSaid : Prop := relativesOrderRow.holds Tryz.pinned (OpenSpec.ofChange relativesOrderSpec)

/-- ITS FALSE NEIGHBOUR: 'it returns false'. Refute it at one input. -/
def relativesOrderWrong : ChangeSpec := { name := "relativesOrder", fn := fun _ => fun
  | [d1, d2] => { results := [.lit (.bool false)], args := [d1, d2] }
  | _ => none }
def RelativesOrderWrongFalsely : Prop := relativesOrderRow.holds Tryz.pinned (OpenSpec.ofChange relativesOrderWrong)

/-- 'columnsevenlaw31.RelativesActs': WHATEVER THE INPUT: true; the input reads as it did. -/
def relativesActsSpec : ChangeSpec := { name := "relativesActs", fn := fun _ => fun
  | [d] => { results := [.lit (.bool true)], args := [d] }
  | _ => none }
def relativesActsRow : OpenClaim := { program := "ytjbepnkchoaipaagreat", sum := "65dee8872e83d2312c91b2c089f1ef67b72e4fc91e788880a6d21ddf216428b3", func := "columnseven/columnsevenlaw31.RelativesActs", spec := "relativesActs", inPlace := ["internal/bytealg.IndexByteString", "internal/bytealg.IndexString", "maps.clone"], unfollowed := true, recurses := true, named := ["internal/bytealg.MaxLen"], apart := false }
def RelativesActsSaid : Prop := relativesActsRow.holds Tryz.pinned (OpenSpec.ofChange relativesActsSpec)

/-- ITS FALSE NEIGHBOUR: 'it returns false'. Refute it at one input. -/
def relativesActsWrong : ChangeSpec := { name := "relativesActs", fn := fun _ => fun
  | [d] => { results := [.lit (.bool false)], args := [d] }
  | _ => none }
def RelativesActsWrongFalsely : Prop := relativesActsRow.holds Tryz.pinned (OpenSpec.ofChange relativesActsWrong)

/-- 'columnsevenlaw31.RelativesCut': WHATEVER THE INPUT: true; the input reads as it did. -/
def relativesCutSpec : ChangeSpec := { name := "relativesCut", fn := fun _ => fun
  | [d1, d2] => { results := [.lit (.bool true)], args := [d1, d2] }
  | _ => none }
def relativesCutRow : OpenClaim := { program := "ytjbepnkchoaipaagreat", sum := "65dee8872e83d2312c91b2c089f1ef67b72e4fc91e788880a6d21ddf216428b3", func := "columnseven/columnsevenlaw31.RelativesCut", spec := "relativesCut", inPlace := ["internal/bytealg.IndexByteString", "internal/bytealg.IndexString", "maps.clone"], unfollowed := true, recurses := true, named := ["internal/bytealg.MaxLen"], apart := false }
def RelativesCutSaid : Prop := relativesCutRow.holds Tryz.pinned (OpenSpec.ofChange relativesCutSpec)

/-- ITS FALSE NEIGHBOUR: 'it returns false'. Refute it at one input. -/
def relativesCutWrong : ChangeSpec := { name := "relativesCut", fn := fun _ => fun
  | [d1, d2] => { results := [.lit (.bool false)], args := [d1, d2] }
  | _ => none }
def RelativesCutWrongFalsely : Prop := relativesCutRow.holds Tryz.pinned (OpenSpec.ofChange relativesCutWrong)

/-- 'columnsevenlaw31.RelativesKnown': WHATEVER THE INPUT: true; the input reads as it did. -/
def relativesKnownSpec : ChangeSpec := { name := "relativesKnown", fn := fun _ => fun
  | [] => { results := [.lit (.bool true)], args := [] }
  | _ => none }
def relativesKnownRow : OpenClaim := { program := "ytjbepnkchoaipaagreat", sum := "65dee8872e83d2312c91b2c089f1ef67b72e4fc91e788880a6d21ddf216428b3", func := "columnseven/columnsevenlaw31.RelativesKnown", spec := "relativesKnown", inPlace := ["internal/bytealg.IndexByteString", "internal/bytealg.IndexString", "maps.clone"], unfollowed := true, recurses := true, named := ["internal/bytealg.MaxLen"], apart := false }
def RelativesKnownSaid : Prop := relativesKnownRow.holds Tryz.pinned (OpenSpec.ofChange relativesKnownSpec)

/-- ITS FALSE NEIGHBOUR: 'it returns false'. Refute it at one input. -/
def relativesKnownWrong : ChangeSpec := { name := "relativesKnown", fn := fun _ => fun
  | [] => { results := [.lit (.bool false)], args := [] }
  | _ => none }
def RelativesKnownWrongFalsely : Prop := relativesKnownRow.holds Tryz.pinned (OpenSpec.ofChange relativesKnownWrong)

/- THE SECOND FORM. 'bulk': how many values and letters a reading holds, each counted each time it is reached (what is shared counts as often as it is met; a slice's spare places count too). A statement '..UptoSaid' is the law's where the arguments, and the package variables that the reading takes, are together of bulk at most 1048576: NARROWER than '..Said'. Prove '..Said' where nothing that the law and all that it calls make is longer than what came in: it says more and counts as full. Else prove '..UptoSaid'. A law counts once. -/
mutual
def uptoBulk {H : Type} : DataW H → Nat
  | .lit (.string bytes) => bytes.length + 1
  | .lit _ => 1
  | .nil => 1
  | .ptr d => uptoBulk d + 1
  | .slice elems spare => uptoBulkAll elems + uptoBulkAll spare + 1
  | .agg parts => uptoBulkAll parts + 1
  | .iface _ d => uptoBulk d + 1
  | .map entries => uptoBulkEntries entries + 1
  | .held _ => 1
def uptoBulkAll {H : Type} : List (DataW H) → Nat
  | [] => 0
  | d :: r => uptoBulk d + uptoBulkAll r
def uptoBulkEntries {H : Type} : List (Lit × DataW H) → Nat
  | [] => 0
  | x :: r => uptoBulkEntry x + uptoBulkEntries r
def uptoBulkEntry {H : Type} : Lit × DataW H → Nat
  | (.string bytes, d) => bytes.length + uptoBulk d + 1
  | (_, d) => uptoBulk d + 1
 end
def uptoSmall : (H : Type) → List (DataW H) → Bool := fun _ ds => decide (uptoBulkAll ds ≤ 1048576)
def OpenSpec.upto (s : _root_.Go.ChangeSpec) : _root_.Go.OpenSpec := { _root_.Go.OpenSpec.ofChange s with cond := some uptoSmall }

/-- 'columnsevenlaw31.RelativesOrder', WHERE WHAT IT READS IS OF BULK AT MOST 1048576: true; the input reads as it did. -/
def relativesOrderUptoRow : OpenClaim := { program := "ytjbepnkchoaipaagreat", sum := "65dee8872e83d2312c91b2c089f1ef67b72e4fc91e788880a6d21ddf216428b3", func := "columnseven/columnsevenlaw31.RelativesOrder", spec := "relativesOrder", inPlace := ["internal/bytealg.IndexByteString", "internal/bytealg.IndexString", "maps.clone"], unfollowed := true, recurses := true, named := ["internal/bytealg.MaxLen"], apart := false, narrowed := true }
def RelativesOrderUptoSaid : Prop := relativesOrderUptoRow.holds Tryz.pinned (OpenSpec.upto relativesOrderSpec)

/-- 'columnsevenlaw31.RelativesActs', WHERE WHAT IT READS IS OF BULK AT MOST 1048576: true; the input reads as it did. -/
def relativesActsUptoRow : OpenClaim := { program := "ytjbepnkchoaipaagreat", sum := "65dee8872e83d2312c91b2c089f1ef67b72e4fc91e788880a6d21ddf216428b3", func := "columnseven/columnsevenlaw31.RelativesActs", spec := "relativesActs", inPlace := ["internal/bytealg.IndexByteString", "internal/bytealg.IndexString", "maps.clone"], unfollowed := true, recurses := true, named := ["internal/bytealg.MaxLen"], apart := false, narrowed := true }
def RelativesActsUptoSaid : Prop := relativesActsUptoRow.holds Tryz.pinned (OpenSpec.upto relativesActsSpec)

/-- 'columnsevenlaw31.RelativesCut', WHERE WHAT IT READS IS OF BULK AT MOST 1048576: true; the input reads as it did. -/
def relativesCutUptoRow : OpenClaim := { program := "ytjbepnkchoaipaagreat", sum := "65dee8872e83d2312c91b2c089f1ef67b72e4fc91e788880a6d21ddf216428b3", func := "columnseven/columnsevenlaw31.RelativesCut", spec := "relativesCut", inPlace := ["internal/bytealg.IndexByteString", "internal/bytealg.IndexString", "maps.clone"], unfollowed := true, recurses := true, named := ["internal/bytealg.MaxLen"], apart := false, narrowed := true }
def RelativesCutUptoSaid : Prop := relativesCutUptoRow.holds Tryz.pinned (OpenSpec.upto relativesCutSpec)

/-- 'columnsevenlaw31.RelativesKnown', WHERE WHAT IT READS IS OF BULK AT MOST 1048576: true; the input reads as it did. -/
def relativesKnownUptoRow : OpenClaim := { program := "ytjbepnkchoaipaagreat", sum := "65dee8872e83d2312c91b2c089f1ef67b72e4fc91e788880a6d21ddf216428b3", func := "columnseven/columnsevenlaw31.RelativesKnown", spec := "relativesKnown", inPlace := ["internal/bytealg.IndexByteString", "internal/bytealg.IndexString", "maps.clone"], unfollowed := true, recurses := true, named := ["internal/bytealg.MaxLen"], apart := false, narrowed := true }
def RelativesKnownUptoSaid : Prop := relativesKnownUptoRow.holds Tryz.pinned (OpenSpec.upto relativesKnownSpec)

end Rows
end Go.Proofs.YtjbepnkchoaipaaGreat
