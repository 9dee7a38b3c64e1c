import Derived.Test.YthjjbaiijelhnaaM50
import Derived.Test.YthjjbaiijelhnaaM34
import Derived.Test.YthjjbaiijelhnaaM39
set_option linter.unusedVariables false
set_option linter.unusedSimpArgs false
/- JournalsActs: for every input the law returns true; each argument reads afterwards as it read before. -/
namespace Go.Proofs.Ythjjbaiijelhnaa
open Go.ChangeShapes Go.WideShapes Go.ChangeAt Go.WideMaps Go.WideElems Go.RowKit
open Go.ChangeMaps (open_string)
set_option maxRecDepth 100000
theorem journalsActs_lifted (os : Os) (started : os.Started) (H : Type) (enc : TypeId × Value → H) :
    ReturnsInHanded {} Try.checked os 8 .any (fun w args => Rows.journalsActsSpec.pre enc Try.prog Try.f8 [] false w args ∧ sizedMet enc Try.prog Try.f8 (OpenSpec.ofChange Rows.journalsActsSpec) false w args)
      (Rows.journalsActsSpec.post enc Try.prog Try.f8 false true false false) := by
  refine lift_law (tb := 4) started (by kernel_rfl) Try.func8
    (ChangeSpec.witness6 (enc := enc) (C := Try.checked) false ⟨#[], #[.slice none 0 0, .string ByteArray.empty, .string ByteArray.empty], []⟩ 8 (by kernel_rfl) (by kernel_rfl) (by kernel_rfl) (by kernel_rfl))
    rfl (fun l hl => ?_) (by kernel_rfl) Try.underlying4 (by kernel_rfl) ?_
  · match l, hl with
    | [a, b, c], _ => rfl
  · intro W base args ds ps hval hA _ hsz
    rw [Try.params8] at hA hval hsz
    obtain ⟨v0, v1, v2, d0, d1, d2, p0, p1, p2, rfl, rfl, rfl, h0, h1, h2⟩ := trodAll_three hA
    obtain ⟨_, _, _, rfl⟩ := okWide_slice Try.underlying64 (hval 0 64 v0 rfl rfl)
    obtain ⟨A1, c1, L1, e1, ha1, hl1, hv1⟩ := open_acts h0 rfl
    rw [e1]
    obtain ⟨pre, rfl, rfl, rfl, hp⟩ := open_string Try.underlying9 (hval 1 9 v1 rfl rfl) h1
    obtain ⟨fr, rfl, rfl, rfl, hf⟩ := open_string Try.underlying9 (hval 2 9 v2 rfl rfl) h2
    have hz : ∀ y ∈ DataW.weightsEach Try.prog [64, 9, 9] [d0, .lit (.string pre.data.toList), .lit (.string fr.data.toList)], y ≤ reachBytes := fun y hy => by
      have := List.all_eq_true.1 hsz y (by simpa using hy)
      simpa using this
    have hz1 : pre.size ≤ 281474976710656 := by
      have h1 := hz pre.data.toList.length (by unfold DataW.weightsEach; refine List.mem_append_right _ ?_; unfold DataW.weightsEach; refine List.mem_append_left _ ?_; unfold DataW.weights; exact List.mem_singleton.2 rfl)
      have h2 : pre.data.toList.length = pre.size := Array.length_toList
      rw [h2] at h1; exact Nat.le_trans h1 (by decide)
    have hz2 : fr.size ≤ 281474976710656 := by
      have h1 := hz fr.data.toList.length (by unfold DataW.weightsEach; refine List.mem_append_right _ ?_; unfold DataW.weightsEach; refine List.mem_append_right _ ?_; unfold DataW.weightsEach; refine List.mem_append_left _ ?_; unfold DataW.weights; exact List.mem_singleton.2 rfl)
      have h2 : fr.data.toList.length = fr.size := Array.length_toList
      rw [h2] at h1; exact Nat.le_trans h1 (by decide)
    by_cases h : 250 < J.units L1 ∨ 50 < pre.size + fr.size
    · exact acts_lives A1 c1 L1 pre fr W ha1 hl1 hv1 (by omega) h
    · obtain ⟨fl, rfl⟩ : ∃ fl : List UInt8, fr = ⟨fl.toArray⟩ := ⟨fr.data.toList, by simp⟩
      rw [enc_size] at h
      exact acts_small A1 c1 L1 pre fl W ha1 (Nat.not_lt.1 fun x => h (.inl x)) hv1 (Nat.not_lt.1 fun x => h (.inr x))
theorem journalsActs_holds : Rows.JournalsActsSaid :=
  OpenClaim.holds_of_wide 8 Try.f8 rfl rfl rfl rfl rfl rfl rfl ⟨rfl, rfl, rfl, rfl, rfl⟩ rfl rfl rfl rfl rfl (by kernel_rfl) Try.func8 (by kernel_rfl)
    (of_decide_eq_true (by kernel_rfl)) (by unfold Func.isWrapper; rw [if_neg (of_decide_eq_false (by kernel_rfl))]; exact ⟨rfl, rfl⟩)
    (fun os started H enc _ => journalsActs_lifted os started H enc)
end Go.Proofs.Ythjjbaiijelhnaa
