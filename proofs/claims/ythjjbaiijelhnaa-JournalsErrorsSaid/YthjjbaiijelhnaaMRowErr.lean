import Derived.Test.YthjjbaiijelhnaaM33
import Derived.Test.YthjjbaiijelhnaaM34
set_option linter.unusedVariables false
set_option linter.unusedSimpArgs false
/- JournalsErrors: for every input the law returns true; each argument reads afterwards as it read before. -/
namespace Go.Proofs.Ythjjbaiijelhnaa
open Go.ChangeShapes Go.WideShapes Go.ChangeAt Go.WideMaps Go.WideElems Go.RowKit
open Go.ChangeMaps (open_string)
set_option maxRecDepth 100000
section
variable {H : Type} {enc : TypeId × Value → H} {P : Program} {W : World} {base : Nat} {sp : Nat → Bool} {held : Bool}
theorem open_two {r : Reach} {b0 : Nat} {t e : TypeId} {k : IntKind} {v : Value} {d : DataW H} {ps : List MemPlace} (hu : P.underlying t = some (.array 2 e)) (he : P.underlying e = some (.int k)) (hc : P.cellsOf t = 2) (h1 : P.cellsOf e = 1)
    (hval : Value.okWide P W r b0 t v) (hd : DataW.Trod enc P W base sp held t v d ps) : ∃ a b : Int, v = .agg #[.int k a, .int k b] := by
  simp only [Value.okWide, hu] at hval
  obtain ⟨cs, rfl, hs, _⟩ := hval
  rw [hc] at hs
  obtain ⟨x, y, rfl⟩ : ∃ x y, cs = #[x, y] := by
    match cs, hs with
    | ⟨[x, y]⟩, _ => exact ⟨x, y, rfl⟩
  obtain ⟨fuel, hf⟩ := hd
  cases fuel with
  | zero => simp [DataW.trod] at hf
  | succ m =>
    rw [DataW.trod_step] at hf
    unfold DataW.trodStep at hf
    simp only [hu, Value.cells] at hf
    rw [if_pos (by rw [hc]; rfl)] at hf
    simp only [Option.map_eq_some_iff] at hf
    obtain ⟨ys, hy, _⟩ := hf
    rw [h1, show List.range 2 = [0, 1] from rfl, List.mapM_cons] at hy
    simp only [bind, Option.bind_eq_some_iff, pure, Option.some.injEq] at hy
    obtain ⟨y0, e0, ys, hys, rfl⟩ := hy
    rw [List.mapM_cons] at hys
    simp only [bind, Option.bind_eq_some_iff, pure, Option.some.injEq] at hys
    obtain ⟨y1, e1, _⟩ := hys
    obtain ⟨a, ea, _, _⟩ := DataW.trod_int he e0
    obtain ⟨b, eb, _, _⟩ := DataW.trod_int he e1
    simp at ea eb
    exact ⟨a, b, by rw [ea, eb]⟩
end
theorem journalsErrors_lifted (os : Os) (started : os.Started) (H : Type) (enc : TypeId × Value → H) :
    ReturnsInHanded {} Try.checked os 5 .any (fun w args => Rows.journalsErrorsSpec.pre enc Try.prog Try.f5 [] false w args ∧ sizedMet enc Try.prog Try.f5 (OpenSpec.ofChange Rows.journalsErrorsSpec) false w args)
      (Rows.journalsErrorsSpec.post enc Try.prog Try.f5 false true false false) := by
  refine lift_law (tb := 4) started (by kernel_rfl) Try.func5
    (ChangeSpec.witness6 (enc := enc) (C := Try.checked) false ⟨#[], #[.string ByteArray.empty, .int .u16 0, .agg #[.int .i64 0, .int .i64 0]], []⟩ 8 (by kernel_rfl) (by kernel_rfl) (by kernel_rfl) (by kernel_rfl))
    rfl (fun l hl => ?_) (by kernel_rfl) Try.underlying4 (by kernel_rfl) ?_
  · match l, hl with
    | [a, b, c], _ => rfl
  · intro W base args ds ps hval hA _ _
    rw [Try.params5] at hA hval
    obtain ⟨v0, v1, v2, d0, d1, d2, p0, p1, p2, rfl, rfl, rfl, h0, h1, h2⟩ := trodAll_three hA
    obtain ⟨s, rfl, rfl, rfl, hs⟩ := open_string Try.underlying9 (hval 0 9 v0 rfl rfl) h0
    obtain ⟨n, rfl, rfl, rfl, wn⟩ := open_int Try.underlying52 (hval 1 52 v1 rfl rfl) h1
    obtain ⟨z0, z1, rfl⟩ := open_two Try.underlying53 Try.underlying3 (by kernel_rfl) (by kernel_rfl) (hval 2 53 v2 rfl rfl) h2
    obtain ⟨k, rfl, hk⟩ : ∃ k : Nat, n = k ∧ k < 65536 := by
      have := bounds_u16 wn
      exact ⟨n.toNat, by omega, by omega⟩
    by_cases h : (s.size : Int) ≤ 400
    · obtain ⟨kl, rfl⟩ : ∃ kl : List UInt8, s = ⟨kl.toArray⟩ := ⟨s.data.toList, by simp⟩
      exact errors_small kl k z0 z1 W (by rw [enc_size] at h; exact h) hk
    · exact errors_big s k z0 z1 W (by omega)
theorem journalsErrors_holds : Rows.JournalsErrorsSaid :=
  OpenClaim.holds_of_wide 5 Try.f5 rfl rfl rfl rfl rfl rfl rfl ⟨rfl, rfl, rfl, rfl, rfl⟩ rfl rfl rfl rfl rfl (by kernel_rfl) Try.func5 (by kernel_rfl)
    (of_decide_eq_true (by kernel_rfl)) (by unfold Func.isWrapper; rw [if_neg (of_decide_eq_false (by kernel_rfl))]; exact ⟨rfl, rfl⟩)
    (fun os started H enc _ => journalsErrors_lifted os started H enc)
end Go.Proofs.Ythjjbaiijelhnaa
