import Derived.Test.YtojmckbpafkagaaGreatDoorEO
/- One closed call of the program, computed by the kernel. -/
namespace Go.Ev
open Go Go.RowKit Go.Proofs
set_option maxRecDepth 1000000
noncomputable def g2a : List Value := [.string (B8 [48, 49, 32, 82, 32, 86, 65, 76, 85, 69, 32, 65, 76, 76, 32, 34, 65, 66, 34, 32, 46, 32, 48, 53, 32, 65, 32, 80, 73, 67, 32, 88, 32, 79, 67, 67, 85, 82, 83, 32, 51, 32, 46, 32, 48, 53, 32, 66, 32, 80, 73, 67, 32, 57, 32, 86, 65, 76, 85, 69, 32, 55, 32, 46])]
noncomputable def g2v : Value := .string (B8 [65, 66, 65, 55])
theorem g2_run : givesV (runFn Tryz.prog (tabL tabs) hkS 100000 13 g2a (startH gs)) g2v = true := by kernel_rfl
theorem g2_ok : HkF Tryz.prog 13 (pureH (oneG g2a g2v)) := (one_pure (by kernel_rfl) (by kernel_rfl) (by kernel_rfl) g2_run).hk
end Go.Ev
