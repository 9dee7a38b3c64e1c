import Derived.Test.YtjbepnkchoaipaaGreatM52
import Derived.Test.YtjbepnkchoaipaaGreatM49
set_option linter.unusedVariables false
set_option linter.unusedSimpArgs false
/- RelativesKnown: the law, which takes no argument, returns true. -/
namespace Go.Proofs.YtjbepnkchoaipaaGreat
open Go.ChangeShapes Go.WideShapes Go.ChangeAt Go.WideMaps Go.WideElems Go.RowKit
set_option maxRecDepth 100000
theorem relativesKnown_lifted (os : Os) (started : os.Started) (H : Type) (enc : TypeId × Value → H) :
    ReturnsInHanded {} Tryz.checked os 6 .any (fun w args => Rows.relativesKnownSpec.pre enc Tryz.prog Tryz.f6 [] false w args ∧ sizedMet enc Tryz.prog Tryz.f6 (OpenSpec.ofChange Rows.relativesKnownSpec) false w args)
      (Rows.relativesKnownSpec.post enc Tryz.prog Tryz.f6 false true false false) := by
  refine lift_law (tb := 4) started (by kernel_rfl) Tryz.func6
    (ChangeSpec.witness6 (enc := enc) (C := Tryz.checked) false ⟨#[], #[], []⟩ 8 (by kernel_rfl) (by kernel_rfl) (by kernel_rfl) (by kernel_rfl))
    rfl (fun l hl => ?_) (by kernel_rfl) Tryz.underlying4 (by kernel_rfl) ?_
  · match l, hl with
    | [], _ => rfl
  · intro W base args ds ps hval hA _ _
    rw [Tryz.params6] at hA hval
    obtain ⟨rfl, rfl, rfl⟩ := trodAll_none hA
    exact known_any W
theorem relativesKnown_holds : Rows.RelativesKnownSaid :=
  OpenClaim.holds_of_wide 6 Tryz.f6 rfl rfl rfl rfl rfl rfl rfl ⟨rfl, rfl, rfl, rfl, rfl⟩ rfl rfl rfl rfl rfl (by kernel_rfl) Tryz.func6 (by kernel_rfl)
    (of_decide_eq_true (by kernel_rfl)) (by unfold Func.isWrapper; rw [if_neg (of_decide_eq_false (by kernel_rfl))]; exact ⟨rfl, rfl⟩)
    (fun os started H enc _ => relativesKnown_lifted os started H enc)
end Go.Proofs.YtjbepnkchoaipaaGreat
