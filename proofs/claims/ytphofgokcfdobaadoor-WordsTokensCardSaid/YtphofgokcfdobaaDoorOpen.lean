/- Arguments that are structs, opened: a number as plain data, a token. -/
import Derived.Test.YtphofgokcfdobaaDoorLift
import Derived.Lib.SmallJoins
namespace Go.Proofs.YtphofgokcfdobaaDoor
open Go.ChangeShapes Go.WideShapes Go.ChangeAt Go.WideMaps Go.WideElems Go.RowKit Go.Shelf Go.Joins
set_option maxRecDepth 100000
section
variable {H : Type} {enc : TypeId × Value → H} {W : World} {r : Reach} {b0 base : Nat} {v : Value} {d : DataW H} {p : List MemPlace} {spare : Nat → Bool} {held : Bool}

theorem open_N (hv : Value.okWide Tryd.prog W r b0 33 v) (h : DataW.Trod enc Tryd.prog W base spare held 33 v d p) :
    ∃ (sg : Nat) (a b : ByteArray), v = .agg #[.int .u8 sg, .string a, .string b] ∧ sg < 256 ∧ a.size ≤ maxLen ∧ b.size ≤ maxLen := by
  obtain ⟨v0, v1, v2, y0, y1, y2, m, rfl, rfl, rfl, h0, h1, h2⟩ := open_agg3 Tryd.underlying33 (by kernel_rfl) (by kernel_rfl) hv h
  obtain ⟨n, e0, rfl, wn⟩ := DataW.trod_int Tryd.underlying5 h0
  obtain ⟨a, e1, rfl, ha⟩ := DataW.trod_string Tryd.underlying9 h1
  obtain ⟨b, e2, rfl, hb⟩ := DataW.trod_string Tryd.underlying9 h2
  simp only [List.cons.injEq, and_true] at e0 e1 e2
  subst e0 e1 e2
  have := bounds_u8 wn
  exact ⟨n.toNat, a, b, by rw [Int.toNat_of_nonneg (by omega)], by omega, ha, hb⟩

theorem list5 {α : Type} (l : List α) (h : l.length = 5) : ∃ a b c d e, l = [a, b, c, d, e] := by
  match l, h with
  | [a, b, c, d, e], _ => exact ⟨a, b, c, d, e, rfl⟩
theorem list4 {α : Type} (l : List α) (h : l.length = 4) : ∃ a b c d, l = [a, b, c, d] := by
  match l, h with
  | [a, b, c, d], _ => exact ⟨a, b, c, d, rfl⟩
theorem list2 {α : Type} (l : List α) (h : l.length = 2) : ∃ a b, l = [a, b] := by
  match l, h with
  | [a, b], _ => exact ⟨a, b, rfl⟩

/-- The cells of a token. -/
theorem open_token_cells {fuel : Nat} {cs : List Value} {x : DataW H × List MemPlace} (h : DataW.trod enc Tryd.prog W base spare held fuel 49 cs = some x) :
    ∃ (k : Nat) (t : ByteArray) (line col : Int) (left : Bool), cs = [.int .u8 k, .string t, .int .i64 line, .int .i64 col, .bool left] ∧ k < 256 ∧ t.size ≤ maxLen ∧ (Lit.int .i64 line).wf = true ∧ (Lit.int .i64 col).wf = true ∧
      x = (.agg [.lit (.int .u8 k), .lit (.string t.data.toList), .agg [.lit (.int .i64 line), .lit (.int .i64 col)], .lit (.bool left)], []) := by
  obtain ⟨xs, n, rfl, hx, hlen, hxl, hall⟩ := DataW.trod_struct Tryd.underlying49 h
  have h5 : Tryd.prog.cellsOf 49 = 5 := by kernel_rfl
  obtain ⟨c0, c1, c2, c3, c4, rfl⟩ := list5 cs (hlen.trans h5)
  obtain ⟨y0, y1, y2, y3, rfl⟩ := list4 xs hxl
  have f0 : DataW.trod enc Tryd.prog W base spare held n 45 (([c0, c1, c2, c3, c4].drop 0).take (Tryd.prog.cellsOf 45)) = [y0, y1, y2, y3][0]? := hall 0 _ rfl
  have f1 : DataW.trod enc Tryd.prog W base spare held n 9 (([c0, c1, c2, c3, c4].drop 1).take (Tryd.prog.cellsOf 9)) = [y0, y1, y2, y3][1]? := hall 1 _ rfl
  have f2 : DataW.trod enc Tryd.prog W base spare held n 47 (([c0, c1, c2, c3, c4].drop 2).take (Tryd.prog.cellsOf 47)) = [y0, y1, y2, y3][2]? := hall 2 _ rfl
  have f3 : DataW.trod enc Tryd.prog W base spare held n 4 (([c0, c1, c2, c3, c4].drop 4).take (Tryd.prog.cellsOf 4)) = [y0, y1, y2, y3][3]? := hall 3 _ rfl
  have k0 : Tryd.prog.cellsOf 45 = 1 := by kernel_rfl
  have k1 : Tryd.prog.cellsOf 9 = 1 := by kernel_rfl
  have k2 : Tryd.prog.cellsOf 47 = 2 := by kernel_rfl
  have k3 : Tryd.prog.cellsOf 4 = 1 := by kernel_rfl
  have k4 : Tryd.prog.cellsOf 3 = 1 := by kernel_rfl
  rw [k0] at f0
  rw [k1] at f1
  rw [k2] at f2
  rw [k3] at f3
  obtain ⟨k, e0, rfl, wk⟩ := DataW.trod_int Tryd.underlying45 (show DataW.trod enc Tryd.prog W base spare held n 45 [c0] = some y0 from f0)
  obtain ⟨t, e1, rfl, ht⟩ := DataW.trod_string Tryd.underlying9 (show DataW.trod enc Tryd.prog W base spare held n 9 [c1] = some y1 from f1)
  obtain ⟨zs, m, rfl, hz, hzl, hzz, hall2⟩ := DataW.trod_struct Tryd.underlying47 (show DataW.trod enc Tryd.prog W base spare held n 47 [c2, c3] = some y2 from f2)
  obtain ⟨z0, z1, rfl⟩ := list2 zs hzz
  have g0 : DataW.trod enc Tryd.prog W base spare held m 3 (([c2, c3].drop 0).take (Tryd.prog.cellsOf 3)) = [z0, z1][0]? := hall2 0 _ rfl
  have g1 : DataW.trod enc Tryd.prog W base spare held m 3 (([c2, c3].drop 1).take (Tryd.prog.cellsOf 3)) = [z0, z1][1]? := hall2 1 _ rfl
  rw [k4] at g0 g1
  obtain ⟨line, e2, rfl, wl⟩ := DataW.trod_int Tryd.underlying3 (show DataW.trod enc Tryd.prog W base spare held m 3 [c2] = some z0 from g0)
  obtain ⟨col, e3, rfl, wc⟩ := DataW.trod_int Tryd.underlying3 (show DataW.trod enc Tryd.prog W base spare held m 3 [c3] = some z1 from g1)
  obtain ⟨left, e4, rfl⟩ := DataW.trod_bool Tryd.underlying4 (show DataW.trod enc Tryd.prog W base spare held (m + 1) 4 [c4] = some y3 from f3)
  simp only [List.cons.injEq, and_true] at e0 e1 e2 e3 e4
  subst e0 e1 e2 e3 e4
  have := bounds_u8 wk
  refine ⟨k.toNat, t, line, col, left, by rw [Int.toNat_of_nonneg (by omega)], by omega, ht, wl, wc, ?_⟩
  rw [hx, hz, Int.toNat_of_nonneg (by omega)]
  rfl
theorem open_token (hv : Value.okWide Tryd.prog W r b0 49 v) (h : DataW.Trod enc Tryd.prog W base spare held 49 v d p) :
    ∃ (k : Nat) (t : ByteArray) (line col : Int) (left : Bool), v = .agg #[.int .u8 k, .string t, .int .i64 line, .int .i64 col, .bool left] ∧ k < 256 ∧ t.size ≤ maxLen ∧ (Lit.int .i64 line).wf = true ∧ (Lit.int .i64 col).wf = true := by
  obtain ⟨cs, rfl, hsz⟩ := okWide_struct Tryd.underlying49 hv
  obtain ⟨fuel, hf⟩ := h
  obtain ⟨k, t, line, col, left, e, h1, h2, h3, h4, _⟩ := open_token_cells (show DataW.trod enc Tryd.prog W base spare held fuel 49 cs.toList = _ from hf)
  refine ⟨k, t, line, col, left, ?_, h1, h2, h3, h4⟩
  obtain ⟨cs⟩ := cs
  simp only at e
  rw [e]
end
end Go.Proofs.YtphofgokcfdobaaDoor
