import Derived.Test.YtpcalgoaccmofaaGreatDoorEO
import Derived.Test.YtpcalgoaccmofaaGreatDoorEN
/- The closed call lives() of this seat returns true, at every world that lays the variables of packages as told. -/
namespace Go.Ev
open Go Go.RowKit Go.Proofs
set_option maxRecDepth 1000000
noncomputable def givesV (r : Rc) (v : Value) : Bool := Rc.rec (motive := fun _ => Bool) (fun v' _ => sameV 6 v' v) (fun _ => false) r
theorem givesV_ok {r : Rc} {v : Value} (h : givesV r v = true) : ∃ H, r = .ok v H := by
  cases r with
  | err e => cases h
  | ok v' H' =>
    have h' : sameV 6 v' v = true := h
    exact ⟨H', by rw [sameV_ok _ _ _ h']⟩
noncomputable def hksL : HookT := (12, sc_cut) :: (11, rd_cut) :: hksM
theorem hksL_ok : ∀ x ∈ hksL, HkF Tryz.prog x.1 x.2 := fun x hx => by
  rcases List.mem_cons.1 hx with rfl | hx
  · exact sc_ok
  rcases List.mem_cons.1 hx with rfl | hx
  · exact rd_ok
  · exact hksM_ok x hx
theorem lives_run : givesV (runFn Tryz.prog (tabL tabs) (hookL hksL) 100000 4 [] (startH gs)) (.bool true) = true := by kernel_rfl
theorem lives_there : fnOf Tryz.prog 4 ≠ none := fun h => by
  have h2 : (fnOf Tryz.prog 4).isSome = true := by kernel_rfl
  rw [h] at h2; cases h2
theorem lives_calls (w : World) (hJ : J w) : Calls Tryz.prog 4 ⟨[]⟩ w (fun e w' => e = .returned (.bool true) ∧ Below w.heap.size w w') := by
  obtain ⟨H, hr⟩ := givesV_ok lives_run
  refine Calls.mono (calls_run mixed tabs_ok (hookL_ok hksL_ok) (Nat.le_refl _) hr (by kernel_rfl) w (laid_of hJ) hJ lives_there) fun e w' he => ?_
  obtain ⟨φ, v', rfl, _, hv, hb⟩ := he
  cases hv
  exact ⟨rfl, hb⟩
end Go.Ev
