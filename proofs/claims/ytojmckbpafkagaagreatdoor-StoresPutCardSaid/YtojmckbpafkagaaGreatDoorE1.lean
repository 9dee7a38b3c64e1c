import Derived.Test.YtojmckbpafkagaaGreatDoorEO
/- One closed call of the program, computed by the kernel. -/
namespace Go.Ev
open Go Go.RowKit Go.Proofs
set_option maxRecDepth 1000000
noncomputable def g1a : List Value := [.string (B8 [48, 49, 32, 82, 32, 46, 32, 48, 53, 32, 65, 32, 80, 73, 67, 32, 88, 40, 51, 41, 32, 86, 65, 76, 85, 69, 32, 34, 65, 34, 32, 46, 32, 48, 53, 32, 66, 32, 80, 73, 67, 32, 83, 57, 40, 51, 41, 32, 46, 32, 48, 53, 32, 67, 32, 80, 73, 67, 32, 57, 40, 51, 41, 32, 67, 79, 77, 80, 45, 51, 32, 86, 65, 76, 85, 69, 32, 49, 50, 32, 46, 32, 48, 53, 32, 68, 32, 80, 73, 67, 32, 83, 57, 40, 52, 41, 32, 67, 79, 77, 80, 32, 86, 65, 76, 85, 69, 32, 45, 50, 32, 46])]
noncomputable def g1v : Value := .string (B8 [65, 32, 32, 48, 48, 123, 1, 47, 255, 254])
theorem g1_run : givesV (runFn Tryz.prog (tabL tabs) hkS 100000 13 g1a (startH gs)) g1v = true := by kernel_rfl
theorem g1_ok : HkF Tryz.prog 13 (pureH (oneG g1a g1v)) := (one_pure (by kernel_rfl) (by kernel_rfl) (by kernel_rfl) g1_run).hk
end Go.Ev
