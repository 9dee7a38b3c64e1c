import Derived.Test.YtojmckbpafkagaaGreatDoorEO
/- One closed call of the program, computed by the kernel. -/
namespace Go.Ev
open Go Go.RowKit Go.Proofs
set_option maxRecDepth 1000000
noncomputable def g5a : List Value := [.string (B8 [55, 55, 32, 65, 32, 80, 73, 67, 32, 88, 32, 86, 65, 76, 85, 69, 32, 34, 65, 66, 34, 32, 46])]
noncomputable def g5v : Value := .string (B8 [101, 114, 114, 111, 114, 32, 49, 52])
theorem g5_run : givesV (runFn Tryz.prog (tabL tabs) hkS 100000 13 g5a (startH gs)) g5v = true := by kernel_rfl
theorem g5_ok : HkF Tryz.prog 13 (pureH (oneG g5a g5v)) := (one_pure (by kernel_rfl) (by kernel_rfl) (by kernel_rfl) g5_run).hk
end Go.Ev
