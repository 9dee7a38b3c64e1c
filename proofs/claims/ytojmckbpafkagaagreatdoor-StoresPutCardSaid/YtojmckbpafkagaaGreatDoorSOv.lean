/- Contract: stores.Overlap. -/
import Derived.Test.YtojmckbpafkagaaGreatDoorBase
import Derived.Test.YtojmckbpafkagaaGreatDoorStruct
set_option linter.unusedVariables false
set_option linter.unusedSimpArgs false
namespace Go.Proofs.YtojmckbpafkagaaGreatDoor
open Go.RowKit Go.Lib
set_option maxRecDepth 100000
/-- What Overlap computes: the distance of the beginnings, as a number without a sign, against the first one's length. -/
def ovD (a0 a1 b0 b1 : Int) : Bool := decide (0 < a1) && decide (0 < b1) && decide (IntKind.u64.wrap (IntKind.u64.wrap b0 - IntKind.u64.wrap a0) < IntKind.u64.wrap a1)
def ov (a0 a1 b0 b1 : Int) : Bool := if b0 < a0 then ovD b0 b1 a0 a1 else ovD a0 a1 b0 b1
theorem overlap_any (a0 a1 b0 b1 : Int) (w : World) :
    Calls Tryz.prog 6 #[.agg #[.int .i64 a0, .int .i64 a1], .agg #[.int .i64 b0, .int .i64 b1]] w fun e w' => e = .returned (.bool (ov a0 a1 b0 b1)) ∧ Below w.heap.size w w' := by
  go_enter Tryz.func6, Tryz.ntmps6
  go_wp2
  all_goals
    go_ret
    refine ⟨?_, ((Below.refl _ w).alloc (Nat.le_refl _) _).alloc (by simp) _⟩
  all_goals first
    | (simp [ov, ovD, *]; done)
    | (simp [ov, ovD, *]; omega)
    | (rw [ov, if_neg (by omega)]; simp [ovD, *]; done)
    | (rw [ov, if_neg (by omega)]; simp [ovD, *]; omega)
end Go.Proofs.YtojmckbpafkagaaGreatDoor
