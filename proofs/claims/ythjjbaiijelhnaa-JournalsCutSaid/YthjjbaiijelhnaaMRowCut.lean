import Derived.Test.YthjjbaiijelhnaaM45
import Derived.Test.YthjjbaiijelhnaaM34
import Derived.Test.YthjjbaiijelhnaaM39
set_option linter.unusedVariables false
set_option linter.unusedSimpArgs false
/- JournalsCut: for every input the law returns true; each argument reads afterwards as it read before. -/
namespace Go.Proofs.Ythjjbaiijelhnaa
open Go.ChangeShapes Go.WideShapes Go.ChangeAt Go.WideMaps Go.WideElems Go.RowKit
set_option maxRecDepth 100000
section
variable {H : Type} {enc : TypeId × Value → H} {P : Program} {W : World} {base : Nat} {sp : Nat → Bool} {held : Bool}
theorem open_four {r : Reach} {b0 : Nat} {t e : TypeId} {k : IntKind} {v : Value} {d : DataW H} {ps : List MemPlace} (hu : P.underlying t = some (.array 4 e)) (he : P.underlying e = some (.int k)) (hc : P.cellsOf t = 4) (h1 : P.cellsOf e = 1)
    (hval : Value.okWide P W r b0 t v) (hd : DataW.Trod enc P W base sp held t v d ps) : ∃ a b c f : Int, v = .agg #[.int k a, .int k b, .int k c, .int k f] ∧ (Lit.int k a).wf = true ∧ (Lit.int k b).wf = true ∧ (Lit.int k c).wf = true ∧ (Lit.int k f).wf = true := by
  simp only [Value.okWide, hu] at hval
  obtain ⟨cs, rfl, hs, _⟩ := hval
  rw [hc] at hs
  obtain ⟨x, y, z, w, rfl⟩ : ∃ x y z w, cs = #[x, y, z, w] := by
    match cs, hs with
    | ⟨[x, y, z, w]⟩, _ => exact ⟨x, y, z, w, rfl⟩
  obtain ⟨fuel, hf⟩ := hd
  cases fuel with
  | zero => simp [DataW.trod] at hf
  | succ m =>
    rw [DataW.trod_step] at hf
    unfold DataW.trodStep at hf
    simp only [hu, Value.cells] at hf
    rw [if_pos (by rw [hc]; rfl)] at hf
    simp only [Option.map_eq_some_iff] at hf
    obtain ⟨ys, hy, _⟩ := hf
    rw [h1, show List.range 4 = [0, 1, 2, 3] from rfl, List.mapM_cons] at hy
    simp only [bind, Option.bind_eq_some_iff, pure, Option.some.injEq] at hy
    obtain ⟨y0, e0, ys, hys, rfl⟩ := hy
    rw [List.mapM_cons] at hys
    simp only [bind, Option.bind_eq_some_iff, pure, Option.some.injEq] at hys
    obtain ⟨y1, e1, ys, hys, rfl⟩ := hys
    rw [List.mapM_cons] at hys
    simp only [bind, Option.bind_eq_some_iff, pure, Option.some.injEq] at hys
    obtain ⟨y2, e2, ys, hys, rfl⟩ := hys
    rw [List.mapM_cons] at hys
    simp only [bind, Option.bind_eq_some_iff, pure, Option.some.injEq] at hys
    obtain ⟨y3, e3, _⟩ := hys
    obtain ⟨a, ea, _, wa⟩ := DataW.trod_int he e0
    obtain ⟨b, eb, _, wb⟩ := DataW.trod_int he e1
    obtain ⟨c, ec, _, wc⟩ := DataW.trod_int he e2
    obtain ⟨f, ef, _, wf⟩ := DataW.trod_int he e3
    simp at ea eb ec ef
    exact ⟨a, b, c, f, by rw [ea, eb, ec, ef], wa, wb, wc, wf⟩
end
theorem nat_u16 {n : Int} (h : (Lit.int .u16 n).wf = true) : ∃ k : Nat, n = k ∧ k < 65536 := by
  have := bounds_u16 h
  exact ⟨n.toNat, by omega, by omega⟩
theorem journalsCut_lifted (os : Os) (started : os.Started) (H : Type) (enc : TypeId × Value → H) :
    ReturnsInHanded {} Try.checked os 6 .any (fun w args => Rows.journalsCutSpec.pre enc Try.prog Try.f6 [] false w args ∧ sizedMet enc Try.prog Try.f6 (OpenSpec.ofChange Rows.journalsCutSpec) false w args)
      (Rows.journalsCutSpec.post enc Try.prog Try.f6 false true false false) := by
  refine lift_law (tb := 4) started (by kernel_rfl) Try.func6
    (ChangeSpec.witness6 (enc := enc) (C := Try.checked) false ⟨#[], #[.slice none 0 0, .slice none 0 0, .agg #[.int .u16 0, .int .u16 0, .int .u16 0, .int .u16 0]], []⟩ 8 (by kernel_rfl) (by kernel_rfl) (by kernel_rfl) (by kernel_rfl))
    rfl (fun l hl => ?_) (by kernel_rfl) Try.underlying4 (by kernel_rfl) ?_
  · match l, hl with
    | [a, b, c], _ => rfl
  · intro W base args ds ps hval hA _ _
    rw [Try.params6] at hA hval
    obtain ⟨v0, v1, v2, d0, d1, d2, p0, p1, p2, rfl, rfl, rfl, h0, h1, h2⟩ := trodAll_three hA
    obtain ⟨_, _, _, rfl⟩ := okWide_slice Try.underlying64 (hval 0 64 v0 rfl rfl)
    obtain ⟨_, _, _, rfl⟩ := okWide_slice Try.underlying64 (hval 1 64 v1 rfl rfl)
    obtain ⟨A1, c1, L1, e1, ha1, hl1, hv1⟩ := open_acts h0 rfl
    obtain ⟨A2, c2, L2, e2, ha2, hl2, hv2⟩ := open_acts h1 rfl
    rw [e1, e2]
    obtain ⟨a, b, c, d, rfl, wa, wb, wc, wd⟩ := open_four Try.underlying65 Try.underlying52 (by kernel_rfl) (by kernel_rfl) (hval 2 65 v2 rfl rfl) h2
    obtain ⟨a, rfl, ha⟩ := nat_u16 wa
    obtain ⟨b, rfl, hb⟩ := nat_u16 wb
    obtain ⟨c, rfl, hc⟩ := nat_u16 wc
    obtain ⟨d, rfl, hd⟩ := nat_u16 wd
    by_cases h : 200 < J.units L1 ∨ 200 < J.units L2
    · exact cut_lives A1 A2 c1 c2 L1 L2 a b c d W ha1 ha2 hl1 hl2 hv1 hv2 h
    · exact cut_small A1 A2 c1 c2 L1 L2 a b c d W ha1 ha2 (by omega) (by omega) hv1 hv2 ha hb hc hd
theorem journalsCut_holds : Rows.JournalsCutSaid :=
  OpenClaim.holds_of_wide 6 Try.f6 rfl rfl rfl rfl rfl rfl rfl ⟨rfl, rfl, rfl, rfl, rfl⟩ rfl rfl rfl rfl rfl (by kernel_rfl) Try.func6 (by kernel_rfl)
    (of_decide_eq_true (by kernel_rfl)) (by unfold Func.isWrapper; rw [if_neg (of_decide_eq_false (by kernel_rfl))]; exact ⟨rfl, rfl⟩)
    (fun os started H enc _ => journalsCut_lifted os started H enc)
end Go.Proofs.Ythjjbaiijelhnaa
