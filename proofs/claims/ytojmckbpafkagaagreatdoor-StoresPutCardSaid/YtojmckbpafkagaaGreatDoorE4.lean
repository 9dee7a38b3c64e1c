import Derived.Test.YtojmckbpafkagaaGreatDoorEO
/- One closed call of the program, computed by the kernel. -/
namespace Go.Ev
open Go Go.RowKit Go.Proofs
set_option maxRecDepth 1000000
noncomputable def g4a : List Value := [.string (B8 [55, 55, 32, 65, 32, 80, 73, 67, 32, 57, 32, 86, 65, 76, 85, 69, 32, 49, 50, 32, 46])]
noncomputable def g4v : Value := .string (B8 [101, 114, 114, 111, 114, 32, 49, 52])
theorem g4_run : givesV (runFn Tryz.prog (tabL tabs) hkS 100000 13 g4a (startH gs)) g4v = true := by kernel_rfl
theorem g4_ok : HkF Tryz.prog 13 (pureH (oneG g4a g4v)) := (one_pure (by kernel_rfl) (by kernel_rfl) (by kernel_rfl) g4_run).hk
end Go.Ev
