/- Opening the arguments of the laws of chapter 11: a place; a slice of bytes. -/
import Derived.Test.YtojmckbpafkagaaGreatDoorLiftL
import Derived.Test.YtojmckbpafkagaaGreatDoorSOvL
import Derived.ChangeSlices
import Derived.SliceStrings
import Derived.WideShapes
set_option linter.unusedVariables false
set_option linter.unusedSimpArgs false
namespace Go.Proofs.YtojmckbpafkagaaGreatDoor
open Go.ChangeShapes Go.WideShapes Go.ChangeAt Go.RowKit Go.Lib
set_option maxRecDepth 100000
section
variable {H : Type} {enc : TypeId × Value → H} {W : World} {base : Nat} {held : Bool}
theorem trod_place {fuel : Nat} {cs : List Value} {x : DataW H × List MemPlace} (h : DataW.trod enc Tryz.prog W base (fun _ => true) held fuel 23 cs = some x) :
    ∃ z0 z1, cs = [.int .i64 z0, .int .i64 z1] ∧ I64 z0 ∧ I64 z1 := by
  obtain ⟨xs, n, rfl, hx, hlen, hxl, hall⟩ := DataW.trod_struct Tryz.underlying23 h
  have h2 : Tryz.prog.cellsOf 23 = 2 := by kernel_rfl
  rw [h2] at hlen
  obtain ⟨c0, c1, rfl⟩ : ∃ c0 c1, cs = [c0, c1] := by
    match cs, hlen with
    | [c0, c1], _ => exact ⟨c0, c1, rfl⟩
  obtain ⟨y0, y1, rfl⟩ : ∃ y0 y1, xs = [y0, y1] := by
    match xs, hxl with
    | [y0, y1], _ => exact ⟨y0, y1, rfl⟩
  have k0 : Tryz.prog.cellsOf 3 = 1 := by kernel_rfl
  have f0 : DataW.trod enc Tryz.prog W base (fun _ => true) held n 3 (([c0, c1].drop 0).take (Tryz.prog.cellsOf 3)) = [y0, y1][0]? := hall 0 _ rfl
  have f1 : DataW.trod enc Tryz.prog W base (fun _ => true) held n 3 (([c0, c1].drop 1).take (Tryz.prog.cellsOf 3)) = [y0, y1][1]? := hall 1 _ rfl
  rw [k0] at f0 f1
  obtain ⟨k, e0, rfl, wk⟩ := DataW.trod_int Tryz.underlying3 (show DataW.trod enc Tryz.prog W base (fun _ => true) held n 3 [c0] = some y0 from f0)
  obtain ⟨q, e1, rfl, wq⟩ := DataW.trod_int Tryz.underlying3 (show DataW.trod enc Tryz.prog W base (fun _ => true) held n 3 [c1] = some y1 from f1)
  simp only [List.cons.injEq, and_true] at e0 e1
  subst e0 e1
  have b0 := bounds_i64 wk
  have b1 := bounds_i64 wq
  exact ⟨k, q, rfl, by unfold I64; omega, by unfold I64; omega⟩
theorem open_place {b0 : Nat} {v : Value} {d : DataW H} {ps : List MemPlace} {r : Reach} (hval : Value.okWide Tryz.prog W r b0 23 v) (hd : DataW.Trod enc Tryz.prog W base (fun _ => true) held 23 v d ps) :
    ∃ z0 z1, v = .agg #[.int .i64 z0, .int .i64 z1] ∧ I64 z0 ∧ I64 z1 := by
  simp only [Value.okWide, Tryz.underlying23] at hval
  obtain ⟨cs, rfl, hs, _⟩ := hval
  obtain ⟨fuel, hf⟩ := hd
  obtain ⟨z0, z1, e, h⟩ := trod_place hf
  have e2 : cs.toList = _ := e
  exact ⟨z0, z1, by rw [show cs = #[.int .i64 z0, .int .i64 z1] from Array.ext' e2], h⟩
end
end Go.Proofs.YtojmckbpafkagaaGreatDoor
