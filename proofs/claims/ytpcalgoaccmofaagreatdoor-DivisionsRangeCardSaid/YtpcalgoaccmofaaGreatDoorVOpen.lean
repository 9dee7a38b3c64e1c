/- Opening the arguments of DivisionsRange: a slice of pairs of bytes, a pair of bytes. -/
import Derived.Test.YtpcalgoaccmofaaGreatDoorLiftL
import Derived.Test.YtpcalgoaccmofaaGreatDoorVLawA
import Derived.ChangeSlices
import Derived.SliceStrings
import Derived.WideShapes
import Derived.MakeChecks
set_option linter.unusedVariables false
set_option linter.unusedSimpArgs false
namespace Go.Proofs.YtpcalgoaccmofaaGreatDoor
open Go.ChangeShapes Go.WideShapes Go.ChangeAt Go.RowKit Go.Lib
set_option maxRecDepth 100000
section
variable {H : Type} {enc : TypeId × Value → H} {W : World} {base : Nat} {held : Bool}
theorem vchoose {α : Type} [Inhabited α] {n : Nat} {p : Nat → α → Prop} (h : ∀ i, i < n → ∃ a, p i a) : ∃ f : Nat → α, ∀ i, i < n → p i (f i) :=
  ⟨fun i => if hi : i < n then (h i hi).choose else default, fun i hi => by simp only [hi, dif_pos]; exact (h i hi).choose_spec⟩
theorem vadd_mk (b o k : Nat) : (⟨b, o, none⟩ : Addr).add k = ⟨b, o + k, none⟩ := by unfold Addr.add; split <;> simp_all
theorem trod_pair {fuel : Nat} {cs : List Value} {x : DataW H × List MemPlace} (hn : cs.length = 2) (h : DataW.trod enc Tryz.prog W base (fun _ => true) held fuel 23 cs = some x) :
    ∃ p : Nat × Nat, cs = [.int .u8 (p.1 : Nat), .int .u8 (p.2 : Nat)] ∧ p.1 < 256 ∧ p.2 < 256 := by
  obtain ⟨c0, c1, rfl⟩ : ∃ c0 c1, cs = [c0, c1] := by
    match cs, hn with
    | [c0, c1], _ => exact ⟨c0, c1, rfl⟩
  cases fuel with
  | zero => simp [DataW.trod] at h
  | succ m =>
    rw [DataW.trod_step] at h
    unfold DataW.trodStep at h
    simp only [Tryz.underlying23] at h
    rw [if_pos (by kernel_rfl)] at h
    simp only [Option.map_eq_some_iff] at h
    obtain ⟨ys, hy, _⟩ := h
    rw [show Tryz.prog.cellsOf 5 = 1 by kernel_rfl, show List.range 2 = [0, 1] from rfl, List.mapM_cons] at hy
    simp only [bind, Option.bind_eq_some_iff, pure, Option.some.injEq] at hy
    obtain ⟨y0, e0, ys, hys, rfl⟩ := hy
    rw [List.mapM_cons] at hys
    simp only [bind, Option.bind_eq_some_iff, pure, Option.some.injEq] at hys
    obtain ⟨y1, e1, _⟩ := hys
    obtain ⟨a, ea, _, wa⟩ := DataW.trod_int Tryz.underlying5 e0
    obtain ⟨b, eb, _, wb⟩ := DataW.trod_int Tryz.underlying5 e1
    simp at ea eb
    have b0 := bounds_u8 wa
    have b1 := bounds_u8 wb
    exact ⟨⟨a.toNat, b.toNat⟩, by rw [ea, eb, Int.toNat_of_nonneg (by omega), Int.toNat_of_nonneg (by omega)], by show a.toNat < 256; omega, by show b.toNat < 256; omega⟩
theorem vcell_addr {a : Addr} {v : Value} (h : W.cell? a = some v) : ∃ b o, a = ⟨b, o, none⟩ ∧ b < W.heap.size := by
  obtain ⟨b, o, s⟩ := a
  have hb := cell_lt h
  refine ⟨b, o, ?_, hb⟩
  cases s with
  | none => rfl
  | some x =>
    exfalso
    unfold World.cell? at h
    split at h
    · simp at h
    · cases h
theorem open_pair2 {b0 : Nat} {v : Value} {d : DataW H} {ps : List MemPlace} {r : Reach} (hval : Value.okWide Tryz.prog W r b0 23 v) (hd : DataW.Trod enc Tryz.prog W base (fun _ => true) held 23 v d ps) :
    ∃ p : Nat × Nat, v = .agg #[.int .u8 (p.1 : Nat), .int .u8 (p.2 : Nat)] ∧ p.1 < 256 ∧ p.2 < 256 := by
  simp only [Value.okWide, Tryz.underlying23] at hval
  obtain ⟨cs, rfl, hs, _⟩ := hval
  rw [show Tryz.prog.cellsOf 23 = 2 by kernel_rfl] at hs
  obtain ⟨fuel, hf⟩ := hd
  obtain ⟨p, e, h⟩ := trod_pair (by simpa [Value.cells] using hs) hf
  have e2 : cs.toList = _ := e
  exact ⟨p, by rw [show cs = #[.int .u8 (p.1 : Nat), .int .u8 (p.2 : Nat)] from Array.ext' e2], h⟩
theorem open_pairs {v : Value} {d : DataW H} {ps : List MemPlace} (hd : DataW.Trod enc Tryz.prog W base (fun _ => true) held 22 v d ps) (hv : v.cells = #[v]) :
    ∃ A c, ∃ L : List (Nat × Nat), v = .slice A L.length c ∧ (∀ p ∈ L, p.1 < 256 ∧ p.2 < 256) ∧
      (0 < L.length → ∃ g o, A = some ⟨g, o, none⟩ ∧ g < W.heap.size ∧ ∀ j (h : j < L.length), W.cell? ⟨g, o + j * 2, none⟩ = some (.int .u8 (L[j].1 : Nat)) ∧ W.cell? ⟨g, o + j * 2 + 1, none⟩ = some (.int .u8 (L[j].2 : Nat))) := by
  obtain ⟨fuel, hf⟩ := hd
  rw [hv] at hf
  have k2 : Tryz.prog.cellsOf 23 = 2 := by kernel_rfl
  rcases DataW.trod_slice Tryz.underlying22 hf with ⟨e, _⟩ | ⟨a, len, cap, elems, rest, n, _, e, _, _, _, _, hlen, hall0, _, _⟩
  · simp at e
    exact ⟨none, 0, [], e, by simp, fun h => absurd h (by simp)⟩
  · simp at e
    have hall : ∀ i, i < len → ∃ p : Nat × Nat, (W.cell? (a.add (i * 2)) = some (.int .u8 (p.1 : Nat)) ∧ W.cell? ((a.add (i * 2)).add 1) = some (.int .u8 (p.2 : Nat))) ∧ p.1 < 256 ∧ p.2 < 256 := by
      intro i hi
      have h := hall0 i hi
      rw [List.getElem?_eq_getElem (by omega), Option.bind_eq_some_iff, k2] at h
      obtain ⟨cs', h1, h2⟩ := h
      obtain ⟨_, hl, hc⟩ := World.cells?_some h1
      obtain ⟨p, rfl, w1, w2⟩ := trod_pair (by simpa using hl) h2
      refine ⟨p, ⟨?_, hc 1 (by decide)⟩, w1, w2⟩
      have := hc 0 (by decide)
      simpa [Addr.add] using this
    obtain ⟨f, hf2⟩ := vchoose hall
    refine ⟨some a, cap, (List.range len).map f, by simp [e], fun x hx => ?_, fun hn => ?_⟩
    · obtain ⟨i, hi, rfl⟩ := List.mem_map.1 hx
      exact (hf2 i (by simpa using hi)).2
    · have h0 : 0 < len := by simpa using hn
      obtain ⟨b, o, e2, hb⟩ := vcell_addr (hf2 0 h0).1.1
      have e3 : a = ⟨b, o, none⟩ := by rw [← e2]; simp [Addr.add]
      subst e3
      refine ⟨b, o, rfl, hb, fun i hi => ?_⟩
      have hi2 : i < len := by simpa using hi
      obtain ⟨q0, q1⟩ := (hf2 i hi2).1
      rw [vadd_mk] at q0 q1
      rw [vadd_mk] at q1
      simp only [List.getElem_map, List.getElem_range]
      exact ⟨q0, q1⟩
end
end Go.Proofs.YtpcalgoaccmofaaGreatDoor
