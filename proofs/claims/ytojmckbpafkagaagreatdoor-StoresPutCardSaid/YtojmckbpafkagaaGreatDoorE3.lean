import Derived.Test.YtojmckbpafkagaaGreatDoorEO
/- One closed call of the program, computed by the kernel. -/
namespace Go.Ev
open Go Go.RowKit Go.Proofs
set_option maxRecDepth 1000000
noncomputable def g3a : List Value := [.string (B8 [55, 55, 32, 65, 32, 80, 73, 67, 32, 83, 57, 86, 57, 32, 83, 73, 71, 78, 32, 76, 69, 65, 68, 73, 78, 71, 32, 86, 65, 76, 85, 69, 32, 45, 49, 46, 53, 32, 46])]
noncomputable def g3v : Value := .string (B8 [74, 53])
theorem g3_run : givesV (runFn Tryz.prog (tabL tabs) hkS 100000 13 g3a (startH gs)) g3v = true := by kernel_rfl
theorem g3_ok : HkF Tryz.prog 13 (pureH (oneG g3a g3v)) := (one_pure (by kernel_rfl) (by kernel_rfl) (by kernel_rfl) g3_run).hk
end Go.Ev
