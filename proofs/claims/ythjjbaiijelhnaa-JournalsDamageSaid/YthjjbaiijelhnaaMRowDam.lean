import Derived.Test.YthjjbaiijelhnaaM52
import Derived.Test.YthjjbaiijelhnaaM34
import Derived.Test.YthjjbaiijelhnaaM39
set_option linter.unusedVariables false
set_option linter.unusedSimpArgs false
/- JournalsDamage: for every input the law returns true; each argument reads afterwards as it read before. -/
namespace Go.Proofs.Ythjjbaiijelhnaa
open Go.ChangeShapes Go.WideShapes Go.ChangeAt Go.WideMaps Go.WideElems Go.RowKit
open Go.ChangeMaps (open_string)
set_option maxRecDepth 100000
theorem journalsDamage_lifted (os : Os) (started : os.Started) (H : Type) (enc : TypeId × Value → H) :
    ReturnsInHanded {} Try.checked os 7 .any (fun w args => Rows.journalsDamageSpec.pre enc Try.prog Try.f7 [] false w args ∧ sizedMet enc Try.prog Try.f7 (OpenSpec.ofChange Rows.journalsDamageSpec) false w args)
      (Rows.journalsDamageSpec.post enc Try.prog Try.f7 false true false false) := by
  refine lift_law (tb := 4) started (by kernel_rfl) Try.func7
    (ChangeSpec.witness6 (enc := enc) (C := Try.checked) false ⟨#[], #[.slice none 0 0, .int .u16 0, .int .u8 0], []⟩ 8 (by kernel_rfl) (by kernel_rfl) (by kernel_rfl) (by kernel_rfl))
    rfl (fun l hl => ?_) (by kernel_rfl) Try.underlying4 (by kernel_rfl) ?_
  · match l, hl with
    | [a, b, c], _ => rfl
  · intro W base args ds ps hval hA _ _
    rw [Try.params7] at hA hval
    obtain ⟨v0, v1, v2, d0, d1, d2, p0, p1, p2, rfl, rfl, rfl, h0, h1, h2⟩ := trodAll_three hA
    obtain ⟨_, _, _, rfl⟩ := okWide_slice Try.underlying64 (hval 0 64 v0 rfl rfl)
    obtain ⟨A1, c1, L1, e1, ha1, hl1, hv1⟩ := open_acts h0 rfl
    rw [e1]
    obtain ⟨n, rfl, rfl, rfl, wn⟩ := open_int Try.underlying52 (hval 1 52 v1 rfl rfl) h1
    obtain ⟨z, rfl, rfl, rfl, wz⟩ := open_int Try.underlying5 (hval 2 5 v2 rfl rfl) h2
    obtain ⟨a, rfl, ha⟩ : ∃ k : Nat, n = k ∧ k < 65536 := by
      have := bounds_u16 wn
      exact ⟨n.toNat, by omega, by omega⟩
    obtain ⟨b, rfl, hb⟩ : ∃ k : Nat, z = k ∧ k < 256 := by
      have := bounds_u8 wz
      exact ⟨z.toNat, by omega, by omega⟩
    by_cases h : 120 < J.units L1 ∨ b = 0
    · exact dam_lives A1 c1 L1 a b W ha1 hl1 hv1 h
    · exact dam_small A1 c1 L1 a b W ha1 (Nat.not_lt.1 fun x => h (.inl x)) hv1 ha (Nat.pos_of_ne_zero fun x => h (.inr x)) hb
theorem journalsDamage_holds : Rows.JournalsDamageSaid :=
  OpenClaim.holds_of_wide 7 Try.f7 rfl rfl rfl rfl rfl rfl rfl ⟨rfl, rfl, rfl, rfl, rfl⟩ rfl rfl rfl rfl rfl (by kernel_rfl) Try.func7 (by kernel_rfl)
    (of_decide_eq_true (by kernel_rfl)) (by unfold Func.isWrapper; rw [if_neg (of_decide_eq_false (by kernel_rfl))]; exact ⟨rfl, rfl⟩)
    (fun os started H enc _ => journalsDamage_lifted os started H enc)
end Go.Proofs.Ythjjbaiijelhnaa
