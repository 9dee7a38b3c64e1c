import Derived.Test.YtjbepnkchoaipaaGreatM52
import Derived.Test.YtjbepnkchoaipaaGreatM49
set_option linter.unusedVariables false
set_option linter.unusedSimpArgs false
/- RelativesCut: for every input the law returns true; each argument reads afterwards as it read before. -/
namespace Go.Proofs.YtjbepnkchoaipaaGreat
open Go.ChangeShapes Go.WideShapes Go.ChangeAt Go.WideMaps Go.WideElems Go.RowKit
set_option maxRecDepth 100000
theorem relativesCut_lifted (os : Os) (started : os.Started) (H : Type) (enc : TypeId × Value → H) :
    ReturnsInHanded {} Tryz.checked os 5 .any (fun w args => Rows.relativesCutSpec.pre enc Tryz.prog Tryz.f5 [] false w args ∧ sizedMet enc Tryz.prog Tryz.f5 (OpenSpec.ofChange Rows.relativesCutSpec) false w args)
      (Rows.relativesCutSpec.post enc Tryz.prog Tryz.f5 false true false false) := by
  refine lift_law (tb := 4) started (by kernel_rfl) Tryz.func5
    (ChangeSpec.witness6 (enc := enc) (C := Tryz.checked) false ⟨#[], #[.agg #[.bool false, .int .u8 0, .slice none 0 0], .int .u16 0], []⟩ 8 (by kernel_rfl) (by kernel_rfl) (by kernel_rfl) (by kernel_rfl))
    rfl (fun l hl => ?_) (by kernel_rfl) Tryz.underlying4 (by kernel_rfl) ?_
  · match l, hl with
    | [a, b], _ => rfl
  · intro W base args ds ps hval hA _ _
    rw [Tryz.params5] at hA hval
    obtain ⟨v0, v1, d0, d1, p0, p1, rfl, rfl, rfl, h0, h1⟩ := trodAll_two hA
    obtain ⟨rel, sz, A, c, L, rfl, hsz, ha, hl, hv⟩ := open_S (hval 0 46 v0 rfl rfl) h0
    obtain ⟨z, rfl, _, _, w2⟩ := open_int Tryz.underlying52 (hval 1 52 v1 rfl rfl) h1
    obtain ⟨a, rfl, ha16⟩ : ∃ a : Nat, z = a ∧ a ≤ 65535 := by
      have := bounds_u16 w2
      exact ⟨z.toNat, by omega, by omega⟩
    by_cases hu : 100 < R.units L
    · exact cut31_lives rel sz A c L a W ha hl hv hu
    · exact cut31_small rel sz hsz A c L a ha16 W ha (Nat.not_lt.1 hu)
theorem relativesCut_holds : Rows.RelativesCutSaid :=
  OpenClaim.holds_of_wide 5 Tryz.f5 rfl rfl rfl rfl rfl rfl rfl ⟨rfl, rfl, rfl, rfl, rfl⟩ rfl rfl rfl rfl rfl (by kernel_rfl) Tryz.func5 (by kernel_rfl)
    (of_decide_eq_true (by kernel_rfl)) (by unfold Func.isWrapper; rw [if_neg (of_decide_eq_false (by kernel_rfl))]; exact ⟨rfl, rfl⟩)
    (fun os started H enc _ => relativesCut_lifted os started H enc)
end Go.Proofs.YtjbepnkchoaipaaGreat
