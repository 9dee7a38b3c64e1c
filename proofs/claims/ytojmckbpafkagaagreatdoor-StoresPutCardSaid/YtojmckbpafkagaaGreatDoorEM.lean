import Derived.Test.YtojmckbpafkagaaGreatDoorEL
import Derived.Test.YtojmckbpafkagaaGreatDoorEK
import Derived.Test.YtojmckbpafkagaaGreatDoorEJ
/- All hooks of this seat: contracts, and calls that are remembered. -/
namespace Go.Ev
open Go Go.RowKit Go.Proofs
set_option maxRecDepth 1000000
noncomputable def memFs : List Nat := [291, 264, 259, 287, 289, 286, 148, 146, 169, 292, 115, 14, 290, 80, 125, 137, 60, 65, 71]
noncomputable def hksM : HookT := hks ++ memT Tryz.prog (tabL tabs) hkOf 10000 memFs
theorem mixed : Tryz.prog.follows .mixedOrders = true := by kernel_rfl
theorem hks_all : ∀ x ∈ hks, HkF Tryz.prog x.1 x.2 := fun x hx => by
  simp only [hks, List.mem_cons, List.mem_nil_iff, or_false] at hx
  rcases hx with rfl | rfl | rfl
  · exact gOf_ok.hk
  · exact mnz_ok
  · exact gRep_ok.hk
theorem hksM_ok : ∀ x ∈ hksM, HkF Tryz.prog x.1 x.2 := fun x hx => by
  rcases List.mem_append.1 hx with h | h
  · exact hks_all x h
  · exact memT_ok mixed tabs_ok hkOf_ok (Nat.le_refl _) (by kernel_rfl) x h
noncomputable def hkM : Hook := hookL hksM
theorem hkM_ok : HookOk Tryz.prog hkM := hookL_ok hksM_ok
noncomputable def roL : List (Nat × ABlk) := List.rec (motive := fun _ => Nat → List (Nat × ABlk)) (fun _ => []) (fun l _ ih o => (o, .ro (lenV l) (putL .nil l 0)) :: ih (Nat.succ o)) gs 0
def B8 (l : List Nat) : ByteArray := ⟨⟨l.map UInt8.ofNat⟩⟩
end Go.Ev
