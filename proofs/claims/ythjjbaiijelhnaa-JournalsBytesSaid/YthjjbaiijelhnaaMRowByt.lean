import Derived.Test.YthjjbaiijelhnaaM38
import Derived.Test.YthjjbaiijelhnaaM34
import Derived.Test.YthjjbaiijelhnaaM39
set_option linter.unusedVariables false
set_option linter.unusedSimpArgs false
/- JournalsBytes: for every input the law returns true; each argument reads afterwards as it read before. -/
namespace Go.Proofs.Ythjjbaiijelhnaa
open Go.ChangeShapes Go.WideShapes Go.ChangeAt Go.WideMaps Go.WideElems Go.RowKit
open Go.ChangeMaps (open_string)
set_option maxRecDepth 100000
theorem journalsBytes_lifted (os : Os) (started : os.Started) (H : Type) (enc : TypeId × Value → H) :
    ReturnsInHanded {} Try.checked os 3 .any (fun w args => Rows.journalsBytesSpec.pre enc Try.prog Try.f3 [] false w args ∧ sizedMet enc Try.prog Try.f3 (OpenSpec.ofChange Rows.journalsBytesSpec) false w args)
      (Rows.journalsBytesSpec.post enc Try.prog Try.f3 false true false false) := by
  refine lift_law (tb := 4) started (by kernel_rfl) Try.func3
    (ChangeSpec.witness6 (enc := enc) (C := Try.checked) false ⟨#[], #[.string ByteArray.empty, .slice none 0 0, .bool false], []⟩ 8 (by kernel_rfl) (by kernel_rfl) (by kernel_rfl) (by kernel_rfl))
    rfl (fun l hl => ?_) (by kernel_rfl) Try.underlying4 (by kernel_rfl) ?_
  · match l, hl with
    | [a, b, c], _ => rfl
  · intro W base args ds ps hval hA _ _
    rw [Try.params3] at hA hval
    obtain ⟨v0, v1, v2, d0, d1, d2, p0, p1, p2, rfl, rfl, rfl, h0, h1, h2⟩ := trodAll_three hA
    obtain ⟨s, rfl, rfl, rfl, hs⟩ := open_string Try.underlying9 (hval 0 9 v0 rfl rfl) h0
    obtain ⟨_, _, _, rfl⟩ := okWide_slice Try.underlying22 (hval 1 22 v1 rfl rfl)
    obtain ⟨A, n, c, l, e1, hl, hsl, _⟩ := open_bytes h1 rfl
    rw [e1]
    obtain ⟨g, rfl, rfl, rfl⟩ := open_bool Try.underlying4 (hval 2 4 v2 rfl rfl) h2
    by_cases h : s.toList = [] ∨ 300 < (s.size : Int) ∨ 200 < (n : Int)
    · exact byt_lives s A n c g W h
    · obtain ⟨kl, rfl⟩ : ∃ kl : List UInt8, s = ⟨kl.toArray⟩ := ⟨s.data.toList, by simp⟩
      have h3 : kl ≠ [] := fun e => h (.inl (by subst e; rw [ByteArray.toList_eq]))
      have h4 : kl.length ≤ 300 := by
        have q : ¬ (300 : Int) < ((⟨kl.toArray⟩ : ByteArray).size : Int) := fun e => h (.inr (.inl e))
        rw [enc_size] at q; omega
      have h5 : n ≤ 200 := by
        have := fun e => h (.inr (.inr e))
        omega
      exact byt_small kl l A n c g W h3 h4 h5 hsl hl
theorem journalsBytes_holds : Rows.JournalsBytesSaid :=
  OpenClaim.holds_of_wide 3 Try.f3 rfl rfl rfl rfl rfl rfl rfl ⟨rfl, rfl, rfl, rfl, rfl⟩ rfl rfl rfl rfl rfl (by kernel_rfl) Try.func3 (by kernel_rfl)
    (of_decide_eq_true (by kernel_rfl)) (by unfold Func.isWrapper; rw [if_neg (of_decide_eq_false (by kernel_rfl))]; exact ⟨rfl, rfl⟩)
    (fun os started H enc _ => journalsBytes_lifted os started H enc)
end Go.Proofs.Ythjjbaiijelhnaa
