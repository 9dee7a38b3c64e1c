import Derived.Test.YthjjbaiijelhnaaM47
import Derived.Test.YthjjbaiijelhnaaM34
import Derived.Test.YthjjbaiijelhnaaM39
set_option linter.unusedVariables false
set_option linter.unusedSimpArgs false
/- JournalsImages: for every input the law returns true; each argument reads afterwards as it read before. -/
namespace Go.Proofs.Ythjjbaiijelhnaa
open Go.ChangeShapes Go.WideShapes Go.ChangeAt Go.WideMaps Go.WideElems Go.RowKit Go.Deep
set_option maxRecDepth 100000
section
variable {H : Type} {enc : TypeId × Value → H} {W : World} {base : Nat} {held : Bool}
theorem bytes_weight {fuel : Nat} {A : Option Addr} {n c : Nat} {x : DataW H × List MemPlace} (h : DataW.trod enc Try.prog W base (fun _ => true) held fuel 22 [.slice A n c] = some x) (k : Nat) (hk : ∀ y ∈ x.1.weights Try.prog 22, y ≤ k) : n ≤ k := by
  rcases open_ints Try.underlying22 Try.underlying5 (by kernel_rfl) h with ⟨e, _⟩ | ⟨a, len, cap, zs, e, _, hl, hm, hzl, hx, _, _⟩
  · simp at e
    omega
  · have hzl : zs.length = cap := by simpa using hzl
    simp only [List.cons.injEq, and_true, Value.slice.injEq] at e
    obtain ⟨_, rfl, _⟩ := e
    subst hx
    have hb : Try.prog.bytesOf 5 = 1 := by kernel_rfl
    have := hk (((lits (H := H) .u8 (zs.take n)).length + (lits (H := H) .u8 (zs.drop n)).length) * Try.prog.bytesOf 5) (by
      unfold DataW.weights
      rw [Try.underlying22]
      exact List.mem_cons_self)
    rw [hb] at this
    simp only [lits, List.length_map, List.length_take, List.length_drop] at this
    omega
theorem trod_pair {fuel : Nat} {cs : List Value} {x : DataW H × List MemPlace} (h : DataW.trod enc Try.prog W base (fun _ => true) held fuel 33 cs = some x) (hlen : cs.length = 2) :
    ∃ (A0 A1 : Option Addr) (n0 n1 c0 c1 : Nat) (l0 l1 : J.B), cs = [.slice A0 n0 c0, .slice A1 n1 c1] ∧ l0.length = n0 ∧ l1.length = n1 ∧ Sl W NoM (.slice A0 n0 c0) l0 ∧ Sl W NoM (.slice A1 n1 c1) l1 ∧
      ∀ k, (∀ y ∈ x.1.weights Try.prog 33, y ≤ k) → n0 ≤ k ∧ n1 ≤ k := by
  obtain ⟨v0, v1, rfl⟩ : ∃ v0 v1, cs = [v0, v1] := by
    match cs, hlen with
    | [a, b], _ => exact ⟨a, b, rfl⟩
  cases fuel with
  | zero => simp [DataW.trod] at h
  | succ m =>
    rw [DataW.trod_step] at h
    unfold DataW.trodStep at h
    simp only [Try.underlying33] at h
    rw [if_pos (by kernel_rfl)] at h
    simp only [Option.map_eq_some_iff] at h
    obtain ⟨ys, hy, rfl⟩ := h
    have k1 : Try.prog.cellsOf 22 = 1 := by kernel_rfl
    rw [k1, show List.range 2 = [0, 1] from rfl, List.mapM_cons] at hy
    simp only [bind, Option.bind_eq_some_iff, pure, Option.some.injEq] at hy
    obtain ⟨y0, e0, ys, hys, rfl⟩ := hy
    rw [List.mapM_cons] at hys
    simp only [bind, Option.bind_eq_some_iff, pure, Option.some.injEq] at hys
    obtain ⟨y1, e1, ys, hys, rfl⟩ := hys
    simp only [List.mapM_nil, pure, Option.some.injEq] at hys
    subst hys
    replace e0 : DataW.trod enc Try.prog W base (fun _ => true) held m 22 [v0] = some y0 := e0
    replace e1 : DataW.trod enc Try.prog W base (fun _ => true) held m 22 [v1] = some y1 := e1
    obtain ⟨A0, n0, c0, l0, q0, w0, s0, _⟩ := trod_bytes e0
    obtain ⟨A1, n1, c1, l1, q1, w1, s1, _⟩ := trod_bytes e1
    simp only [List.cons.injEq, and_true] at q0 q1
    subst q0 q1
    refine ⟨A0, A1, n0, n1, c0, c1, l0, l1, rfl, w0, w1, s0, s1, fun k hk => ?_⟩
    have hk2 : ∀ y ∈ DataW.weightsAll Try.prog 22 [y0.1, y1.1], y ≤ k := by
      intro y hy
      refine hk y ?_
      show y ∈ (DataW.agg [y0.1, y1.1]).weights Try.prog 33
      unfold DataW.weights
      rw [Try.underlying33]
      exact hy
    refine ⟨bytes_weight e0 k (fun y hy => hk2 y ?_), bytes_weight e1 k (fun y hy => hk2 y ?_)⟩
    · unfold DataW.weightsAll
      exact List.mem_append_left _ hy
    · unfold DataW.weightsAll
      refine List.mem_append_right _ ?_
      unfold DataW.weightsAll
      exact List.mem_append_left _ hy
theorem open_image {r : Reach} {b0 : Nat} {v : Value} {d : DataW H} {ps : List MemPlace} (hval : Value.okWide Try.prog W r b0 35 v) (hd : DataW.Trod enc Try.prog W base (fun _ => true) held 35 v d ps) (hz : ∀ y ∈ d.weights Try.prog 35, y ≤ reachBytes) :
    ∃ (A0 A1 A2 A3 : Option Addr) (c0 c1 c2 c3 : Nat) (m : J.Img), v = .agg (icells A0 A1 A2 A3 m.h0.length m.h1.length m.a0.length m.a1.length c0 c1 c2 c3) ∧ Sl W NoM (.slice A0 m.h0.length c0) m.h0 ∧ Sl W NoM (.slice A1 m.h1.length c1) m.h1 ∧ Sl W NoM (.slice A2 m.a0.length c2) m.a0 ∧ Sl W NoM (.slice A3 m.a1.length c3) m.a1 ∧
      m.h0.length + m.h1.length + m.a0.length + m.a1.length ≤ 4 * reachBytes := by
  simp only [Value.okWide, Try.underlying35] at hval
  obtain ⟨cs, rfl, hs, _⟩ := hval
  obtain ⟨fuel, hf⟩ := hd
  obtain ⟨xs, n, rfl, hx, hlen, hxl, hall⟩ := DataW.trod_struct Try.underlying35 hf
  have h4 : Try.prog.cellsOf 35 = 4 := by kernel_rfl
  rw [h4] at hs
  obtain ⟨a, b, c, e, rfl⟩ : ∃ a b c e, cs = #[a, b, c, e] := by
    match cs, hs with
    | ⟨[a, b, c, e]⟩, _ => exact ⟨a, b, c, e, rfl⟩
  obtain ⟨y0, y1, rfl⟩ : ∃ y0 y1, xs = [y0, y1] := by
    match xs, hxl with
    | [y0, y1], _ => exact ⟨y0, y1, rfl⟩
  have k2 : Try.prog.cellsOf 33 = 2 := by kernel_rfl
  have f0 : DataW.trod enc Try.prog W base (fun _ => true) held n 33 (([a, b, c, e].drop 0).take (Try.prog.cellsOf 33)) = [y0, y1][0]? := hall 0 _ rfl
  have f1 : DataW.trod enc Try.prog W base (fun _ => true) held n 33 (([a, b, c, e].drop 2).take (Try.prog.cellsOf 33)) = [y0, y1][1]? := hall 1 _ rfl
  rw [k2] at f0 f1
  obtain ⟨A0, A1, n0, n1, c0, c1, l0, l1, q0, w0, w1, s0, s1, g0⟩ := trod_pair (show DataW.trod enc Try.prog W base (fun _ => true) held n 33 [a, b] = some y0 from f0) rfl
  obtain ⟨A2, A3, n2, n3, c2, c3, l2, l3, q1, w2, w3, s2, s3, g1⟩ := trod_pair (show DataW.trod enc Try.prog W base (fun _ => true) held n 33 [c, e] = some y1 from f1) rfl
  simp only [List.cons.injEq, and_true] at q0 q1
  obtain ⟨rfl, rfl⟩ := q0
  obtain ⟨rfl, rfl⟩ := q1
  subst w0 w1 w2 w3
  have hd' : d = .agg [y0.1, y1.1] := by
    have := congrArg Prod.fst hx
    simpa using this
  subst hd'
  have hz2 : ∀ y, y ∈ y0.1.weights Try.prog 33 ∨ y ∈ y1.1.weights Try.prog 33 → y ≤ reachBytes := by
    intro y hy
    refine hz y ?_
    unfold DataW.weights
    rw [Try.underlying35]
    show y ∈ DataW.weightsEach Try.prog [33, 33] [y0.1, y1.1]
    unfold DataW.weightsEach
    unfold DataW.weightsEach
    rcases hy with hy | hy
    · exact List.mem_append_left _ hy
    · exact List.mem_append_right _ (List.mem_append_left _ hy)
  have z0 := g0 reachBytes (fun y hy => hz2 y (.inl hy))
  have z1 := g1 reachBytes (fun y hy => hz2 y (.inr hy))
  exact ⟨A0, A1, A2, A3, c0, c1, c2, c3, ⟨l0, l1, l2, l3⟩, rfl, s0, s1, s2, s3, by show l0.length + l1.length + l2.length + l3.length ≤ _; omega⟩
end
theorem journalsImages_lifted (os : Os) (started : os.Started) (H : Type) (enc : TypeId × Value → H) :
    ReturnsInHanded {} Try.checked os 4 .any (fun w args => Rows.journalsImagesSpec.pre enc Try.prog Try.f4 [] false w args ∧ sizedMet enc Try.prog Try.f4 (OpenSpec.ofChange Rows.journalsImagesSpec) false w args)
      (Rows.journalsImagesSpec.post enc Try.prog Try.f4 false true false false) := by
  refine lift_law (tb := 4) started (by kernel_rfl) Try.func4
    (ChangeSpec.witness6 (enc := enc) (C := Try.checked) false ⟨#[], #[.agg #[.slice none 0 0, .slice none 0 0, .slice none 0 0, .slice none 0 0]], []⟩ 8 (by kernel_rfl) (by kernel_rfl) (by kernel_rfl) (by kernel_rfl))
    rfl (fun l hl => ?_) (by kernel_rfl) Try.underlying4 (by kernel_rfl) ?_
  · match l, hl with
    | [a], _ => rfl
  · intro W base args ds ps hval hA _ hsz
    rw [Try.params4] at hA hval hsz
    obtain ⟨v0, d0, rfl, rfl, h0⟩ := trodAll_one hA
    have hz : ∀ y ∈ d0.weights Try.prog 35, y ≤ reachBytes := by
      intro y hy
      have := List.all_eq_true.1 hsz y (by
        show y ∈ DataW.weightsEach Try.prog [35] [d0]
        unfold DataW.weightsEach
        exact List.mem_append_left _ hy)
      simpa using this
    obtain ⟨A0, A1, A2, A3, c0, c1, c2, c3, m, rfl, q0, q1, q2, q3, hb⟩ := open_image (hval 0 35 v0 rfl rfl) h0 hz
    by_cases h : 2000 < m.h0.length + m.h1.length + m.a0.length + m.a1.length
    · exact img_lives A0 A1 A2 A3 _ _ _ _ c0 c1 c2 c3 W h (Nat.le_trans hb (by decide))
    · exact img_small A0 A1 A2 A3 c0 c1 c2 c3 m W q0 q1 q2 q3 (by omega)
theorem journalsImages_holds : Rows.JournalsImagesSaid :=
  OpenClaim.holds_of_wide 4 Try.f4 rfl rfl rfl rfl rfl rfl rfl ⟨rfl, rfl, rfl, rfl, rfl⟩ rfl rfl rfl rfl rfl (by kernel_rfl) Try.func4 (by kernel_rfl)
    (of_decide_eq_true (by kernel_rfl)) (by unfold Func.isWrapper; rw [if_neg (of_decide_eq_false (by kernel_rfl))]; exact ⟨rfl, rfl⟩)
    (fun os started H enc _ => journalsImages_lifted os started H enc)
end Go.Proofs.Ythjjbaiijelhnaa
