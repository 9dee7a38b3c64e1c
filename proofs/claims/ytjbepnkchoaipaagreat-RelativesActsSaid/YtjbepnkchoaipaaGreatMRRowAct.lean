import Derived.Test.YtjbepnkchoaipaaGreatM48
import Derived.Test.YtjbepnkchoaipaaGreatM49
set_option linter.unusedVariables false
set_option linter.unusedSimpArgs false
/- RelativesActs: for every input the law returns true; each argument reads afterwards as it read before. -/
namespace Go.Proofs.YtjbepnkchoaipaaGreat
open Go.ChangeShapes Go.WideShapes Go.ChangeAt Go.WideMaps Go.WideElems Go.RowKit
set_option maxRecDepth 100000
theorem relativesActs_lifted (os : Os) (started : os.Started) (H : Type) (enc : TypeId × Value → H) :
    ReturnsInHanded {} Tryz.checked os 4 .any (fun w args => Rows.relativesActsSpec.pre enc Tryz.prog Tryz.f4 [] false w args ∧ sizedMet enc Tryz.prog Tryz.f4 (OpenSpec.ofChange Rows.relativesActsSpec) false w args)
      (Rows.relativesActsSpec.post enc Tryz.prog Tryz.f4 false true false false) := by
  refine lift_law (tb := 4) started (by kernel_rfl) Tryz.func4
    (ChangeSpec.witness6 (enc := enc) (C := Tryz.checked) false ⟨#[], #[.agg #[.bool false, .int .u8 0, .slice none 0 0]], []⟩ 8 (by kernel_rfl) (by kernel_rfl) (by kernel_rfl) (by kernel_rfl))
    rfl (fun l hl => ?_) (by kernel_rfl) Tryz.underlying4 (by kernel_rfl) ?_
  · match l, hl with
    | [a], _ => rfl
  · intro W base args ds ps hval hA _ _
    rw [Tryz.params4] at hA hval
    obtain ⟨v0, d0, rfl, rfl, h0⟩ := trodAll_one hA
    obtain ⟨rel, sz, A, c, L, rfl, hsz, ha, hl, hv⟩ := open_S (hval 0 46 v0 rfl rfl) h0
    by_cases hu : 200 < R.units L
    · exact acts31_lives rel sz A c L W ha hl hv hu
    · exact acts31_small rel sz hsz A c L W ha (Nat.not_lt.1 hu)
theorem relativesActs_holds : Rows.RelativesActsSaid :=
  OpenClaim.holds_of_wide 4 Tryz.f4 rfl rfl rfl rfl rfl rfl rfl ⟨rfl, rfl, rfl, rfl, rfl⟩ rfl rfl rfl rfl rfl (by kernel_rfl) Tryz.func4 (by kernel_rfl)
    (of_decide_eq_true (by kernel_rfl)) (by unfold Func.isWrapper; rw [if_neg (of_decide_eq_false (by kernel_rfl))]; exact ⟨rfl, rfl⟩)
    (fun os started H enc _ => relativesActs_lifted os started H enc)
end Go.Proofs.YtjbepnkchoaipaaGreat
