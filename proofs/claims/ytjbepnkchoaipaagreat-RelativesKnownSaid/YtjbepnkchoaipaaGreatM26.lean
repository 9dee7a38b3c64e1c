import Derived.Test.YtjbepnkchoaipaaGreatM25
set_option linter.unusedVariables false
set_option linter.unusedSimpArgs false
/- Contract: Cut refused. -/
namespace Go.Proofs.YtjbepnkchoaipaaGreat
open Go.RowKit Go.Lib
set_option maxRecDepth 100000
abbrev nilI : Value := imgV (.slice none 0 0) (.slice none 0 0) (.slice none 0 0) (.slice none 0 0)
/-- What is no cut. -/
def NoCut (s : J.St) (W T : Int) : Prop := W < 0 ∨ (s.writes.length : Int) < W ∨ T < 0 ∨ (0 < T ∧ (W = (s.writes.length : Int) ∨ ∃ (k : Nat) (h : k < s.writes.length), W = (k : Int) ∧ ((s.writes[k].bs.length : Nat) : Int) < T))
set_option maxHeartbeats 8000000 in
theorem cut_none (p : Nat) (M : Nat → Prop) (s : J.St) (W T : Int) (w : World) (h : StoreR w p M s) (hn : NoCut s W T) :
    Calls Tryz.prog 21 #[.pointer (some ⟨p, 0, none⟩), .int .i64 W, .int .i64 T] w fun e w' => e = .returned (.tuple #[nilI, .int .i64 13]) ∧ Below w.heap.size w w' := by
  have HRD := Lib.hid (fun w1 (hb : Below w.heap.size w w1) => ready_any p M s w1 (h.below hb))
  obtain ⟨bn, bw, ch, wr, b0, b1, b2, b3, d0, d1, d2, d3, h1, h2, h3, h4⟩ := h
  obtain ⟨Aw, cw, rfl, hcw⟩ := wr_slice h3.wrs
  have H3 := Lib.hid h3
  have hB : Below w.heap.size w (w.alloc (.cells #[.slice none 0 0, .slice none 0 0, .slice none 0 0, .slice none 0 0] 67)) := (Below.refl _ _).alloc (Nat.le_refl _) _
  have hr1 := (hB.block p (Array.getElem?_eq_some_iff.1 h1).1).trans h1
  have hcp := fun j => cell_of_row _ p j _ _ _ hr1
  have HB := Lib.hid hB
  have HX := Lib.hid (heap_alloc_new w (.cells #[.slice none 0 0, .slice none 0 0, .slice none 0 0, .slice none 0 0] 67))
  clear h1 h2 h3 h4 hB hr1
  go_enter Tryz.func21, Tryz.ntmps21
  go_wp2_with fail
  refine (HRD.out _ HB.out).mono ?_
  rintro e w1 ⟨rfl, rfl⟩
  generalize w.alloc (.cells #[.slice none 0 0, .slice none 0 0, .slice none 0 0, .slice none 0 0] 67) = WW at hcp HB HX ⊢
  have hcr := fun i => cell_of_row WW w.heap.size i _ _ _ HX.out
  have hfr := frozen_row HX.out
  have fin : ∀ (w' : World), w' = (((WW.setCell ⟨w.heap.size, 0, none⟩ (.slice none 0 0)).setCell ⟨w.heap.size, 1, none⟩ (.slice none 0 0)).setCell ⟨w.heap.size, 2, none⟩ (.slice none 0 0)).setCell ⟨w.heap.size, 3, none⟩ (.slice none 0 0) → w'.heap[w.heap.size]? = some (.cells #[.slice none 0 0, .slice none 0 0, .slice none 0 0, .slice none 0 0] 67 (0, 0)) ∧ Below w.heap.size w w' := by
    rintro w' rfl
    have hg := grown_set (grown_set (grown_set (grown_set (World.grownBy.refl WW (some w.heap.size)) 0 (.slice none 0 0)) 1 (.slice none 0 0)) 2 (.slice none 0 0)) 3 (.slice none 0 0)
    exact ⟨blk_set (blk_set (blk_set (blk_set HX.out 0 (.slice none 0 0)) 1 (.slice none 0 0)) 2 (.slice none 0 0)) 3 (.slice none 0 0), HB.out.grown hg HB.out.size (fun k e => by cases e; exact Nat.le_refl _)⟩
  have FIN := Lib.hid fin
  clear fin
  by_cases c1 : W < 0
  · clear hn
    go_wp2_with fail
    refine bodyPost_ret (results_row_tmp rfl _ _ w.heap.size _ _ _ _ rfl (FIN.out _ rfl).1 Tryz.underlying67 rfl (by kernel_rfl)) rfl ?_
    exact ⟨rfl, (FIN.out _ rfl).2⟩
  by_cases c2 : (s.writes.length : Int) < W
  · clear hn
    go_wp2_with fail
    refine bodyPost_ret (results_row_tmp rfl _ _ w.heap.size _ _ _ _ rfl (FIN.out _ rfl).1 Tryz.underlying67 rfl (by kernel_rfl)) rfl ?_
    exact ⟨rfl, (FIN.out _ rfl).2⟩
  by_cases c3 : T < 0
  · clear hn
    go_wp2_with fail
    refine bodyPost_ret (results_row_tmp rfl _ _ w.heap.size _ _ _ _ rfl (FIN.out _ rfl).1 Tryz.underlying67 rfl (by kernel_rfl)) rfl ?_
    exact ⟨rfl, (FIN.out _ rfl).2⟩
  obtain ⟨hT, hn⟩ := (((hn.resolve_left c1).resolve_left c2).resolve_left c3)
  rcases hn with rfl | ⟨k, hkl, rfl, hlt⟩
  · clear c1 c2
    go_wp2_with fail
    refine bodyPost_ret (results_row_tmp rfl _ _ w.heap.size _ _ _ _ rfl (FIN.out _ rfl).1 Tryz.underlying67 rfl (by kernel_rfl)) rfl ?_
    exact ⟨rfl, (FIN.out _ rfl).2⟩
  · obtain ⟨gk, ck, xk, ek, hcgk, k0, k1, k2, hsk⟩ := wr_read H3.out.wrs hkl
    injection ek with ek1 _ ek2
    subst ek1 ek2
    obtain ⟨Ak, clk, rfl⟩ := hsk.slice_
    have kW := (HB.out.cell (p := ⟨gk, k * 3 + 2, none⟩) (World.block_lt_of_cell? w ⟨gk, k * 3, none⟩ k0)).trans k2
    have hkt3 : ((k : Int) == (s.writes.length : Int)) = false := by simp; omega
    have hkt5 : (k : Int) < (s.writes.length : Int) := by omega
    generalize s.writes[k] = wk at hlt kW hsk
    clear k0 k1 k2 hsk
    go_wp2_with fail
    refine bodyPost_ret (results_row_tmp rfl _ _ w.heap.size _ _ _ _ rfl (FIN.out _ rfl).1 Tryz.underlying67 rfl (by kernel_rfl)) rfl ?_
    exact ⟨rfl, (FIN.out _ rfl).2⟩
end Go.Proofs.YtjbepnkchoaipaaGreat
