import Derived.Test.YtojmckbpafkagaaGreatDoorE1
import Derived.Test.YtojmckbpafkagaaGreatDoorE2
import Derived.Test.YtojmckbpafkagaaGreatDoorE3
import Derived.Test.YtojmckbpafkagaaGreatDoorE4
import Derived.Test.YtojmckbpafkagaaGreatDoorE5
/- lives() of chapter 11. -/
namespace Go.Ev
open Go Go.RowKit Go.Proofs
set_option maxRecDepth 1000000
noncomputable def hksG : HookT := (13, orH (pureH (oneG g1a g1v)) (orH (pureH (oneG g2a g2v)) (orH (pureH (oneG g3a g3v)) (orH (pureH (oneG g4a g4v)) (pureH (oneG g5a g5v)))))) :: hksS
theorem hksG_ok : ∀ x ∈ hksG, HkF Tryz.prog x.1 x.2 := fun x hx => by
  rcases List.mem_cons.1 hx with rfl | h
  · exact orH_ok g1_ok (orH_ok g2_ok (orH_ok g3_ok (orH_ok g4_ok g5_ok)))
  · exact hksS_ok x h
theorem lives_run : givesV (runFn Tryz.prog (tabL tabs) (hookL hksG) 100000 7 [] (startH gs)) (.bool true) = true := by kernel_rfl
/-- The examples of the chapter hold. -/
theorem lives_calls (w : World) (hJ : J w) : Calls Tryz.prog 7 #[] w fun e w' => e = .returned (.bool true) ∧ Below w.heap.size w w' := by
  obtain ⟨H, hr⟩ := givesV_ok lives_run
  refine Calls.mono (calls_run mixed tabs_ok (hookL_ok hksG_ok) (Nat.le_refl _) hr rfl w (laid_of hJ) hJ (fun e => by
    have h : (fnOf Tryz.prog 7).isSome = true := by kernel_rfl
    rw [e] at h; cases h)) fun e w' he => ?_
  obtain ⟨φ, v', rfl, _, k, hb⟩ := he
  cases k
  exact ⟨rfl, hb⟩
end Go.Ev
