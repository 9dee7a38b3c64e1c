import Derived.Test.YtjbepnkchoaipaaGreatM24
import Derived.Test.YtjbepnkchoaipaaGreatM12
set_option linter.unusedVariables false
set_option linter.unusedSimpArgs false
/- Contract: Cut in the middle of a write; Cut refused. -/
namespace Go.Proofs.YtjbepnkchoaipaaGreat
open Go.RowKit Go.Lib
set_option maxRecDepth 100000
theorem done_small (m : J.Img) (wr : J.Wr) (t : Nat) (hb : wr.bs.length ≤ 40000000) (h0 : m.h0.length ≤ 40000000) (h1 : m.h1.length ≤ 40000000) (h2 : m.a0.length ≤ 40000000) (h3 : m.a1.length ≤ 40000000) :
    (J.done m wr t).h0.length ≤ 90000000 ∧ (J.done m wr t).h1.length ≤ 90000000 ∧ (J.done m wr t).a0.length ≤ 90000000 ∧ (J.done m wr t).a1.length ≤ 90000000 := by
  unfold J.done
  split
  · unfold J.Img.setArea J.Img.area
    split
    · exact ⟨by show m.h0.length ≤ _; omega, by show m.h1.length ≤ _; omega, by show (m.a0 ++ _).length ≤ _; rw [List.length_append, List.length_take]; omega, by show m.a1.length ≤ _; omega⟩
    · exact ⟨by show m.h0.length ≤ _; omega, by show m.h1.length ≤ _; omega, by show m.a0.length ≤ _; omega, by show (m.a1 ++ _).length ≤ _; rw [List.length_append, List.length_take]; omega⟩
  · split
    · unfold J.Img.setArea
      split
      · exact ⟨by show m.h0.length ≤ _; omega, by show m.h1.length ≤ _; omega, Nat.zero_le _, by show m.a1.length ≤ _; omega⟩
      · exact ⟨by show m.h0.length ≤ _; omega, by show m.h1.length ≤ _; omega, by show m.a0.length ≤ _; omega, Nat.zero_le _⟩
    · unfold J.Img.setHead J.Img.head
      split
      · exact ⟨by show (wr.bs.take t ++ m.h0.drop t).length ≤ _; rw [List.length_append, List.length_take, List.length_drop]; omega, by show m.h1.length ≤ _; omega, by show m.a0.length ≤ _; omega, by show m.a1.length ≤ _; omega⟩
      · exact ⟨by show m.h0.length ≤ _; omega, by show (wr.bs.take t ++ m.h1.drop t).length ≤ _; rw [List.length_append, List.length_take, List.length_drop]; omega, by show m.a0.length ≤ _; omega, by show m.a1.length ≤ _; omega⟩
/-- What is read by the last statement of Cut's work. -/
def CutS2 (p g gk o : Nat) (C B : Array Value) (x0 x1 x2 : Value) (w : World) : Prop :=
  w.heap[p]? = some (.cells C 83 (0, 0)) ∧ w.heap[g]? = some (.cells B 67 (0, 0)) ∧ w.cell? ⟨gk, o, none⟩ = some x0 ∧ w.cell? ⟨gk, o + 1, none⟩ = some x1 ∧ w.cell? ⟨gk, o + 2, none⟩ = some x2
set_option maxHeartbeats 8000000 in
theorem cut_torn (p : Nat) (M : Nat → Prop) (s : J.St) (k : Nat) (w : World) (h : StoreR w p M s) (hc : CutOk s) (hkl : k < s.writes.length) (t : Nat) (ht0 : 0 < t) (ht : t ≤ (s.writes[k]).bs.length) (hkm : s.writes.length ≤ 20000000) :
    Calls Tryz.prog 21 #[.pointer (some ⟨p, 0, none⟩), .int .i64 k, .int .i64 t] w fun e w' => ∃ v, e = .returned (.tuple #[v, .int .i64 0]) ∧ ImgC w' (· < w.heap.size) v (J.done (J.foldDone s.base (s.writes.take k)) s.writes[k] t) ∧ Below w.heap.size w w' := by
  have hk : k ≤ s.writes.length := Nat.le_of_lt hkl
  have HRD := Lib.hid (fun w1 (hb : Below w.heap.size w w1) => ready_any p M s w1 (h.below hb))
  obtain ⟨bn, bw, ch, wr, b0, b1, b2, b3, d0, d1, d2, d3, h1, h2, h3, h4⟩ := h
  obtain ⟨Aw, cw, rfl, hcw⟩ := wr_slice h3.wrs
  obtain ⟨A0, rfl⟩ := h3.f0.slice_
  obtain ⟨A1, rfl⟩ := h3.f1.slice_
  obtain ⟨A2, rfl⟩ := h3.f2.slice_
  obtain ⟨A3, rfl⟩ := h3.f3.slice_
  obtain ⟨gk, ck, xk, ek, hcgk, k0, k1, k2, hsk⟩ := wr_read h3.wrs hkl
  injection ek with ek1 _ ek2
  subst ek1 ek2
  obtain ⟨Ak, clk, rfl⟩ := hsk.slice_
  have hgkl : gk < w.heap.size := World.block_lt_of_cell? w ⟨gk, k * 3, none⟩ k0
  have K0 := Lib.hid k0
  have K1 := Lib.hid k1
  have K2 := Lib.hid k2
  have HSK := Lib.hid hsk
  obtain ⟨v1, v2, v3, v4⟩ := hc.wr s.writes[k] (List.getElem_mem hkl)
  have HWK := Lib.hid (And.intro v1 (And.intro v2 (And.intro v3 v4)))
  have HTT := Lib.hid ht
  have HGK := Lib.hid hgkl
  have hkt1 : (0 : Int) < (t : Int) := by omega
  have hkt2 : ¬ ((s.writes[k].bs.length : Nat) : Int) < (t : Int) := by omega
  have hkt3 : ¬ (k : Int) = (s.writes.length : Int) := by omega
  have hkt4 : ¬ k = s.writes.length := by omega
  have hkt5 : (k : Int) < (s.writes.length : Int) := by omega
  clear k0 k1 k2 hsk v1 v2 v3 v4
  generalize hwk : s.writes[k] = wk at K0 K1 K2 HSK HWK HTT hkt2 ⊢
  have hkt6 : ((k : Int) == (s.writes.length : Int)) = false := by simpa using hkt3
  have hkt7 : decide ((t : Int) < 0) = false := by simp <;> omega
  have hkt8 : decide (wk.bs.length < t) = false := by have := HTT.out; simp; omega
  have hkt9 : decide (((wk.bs.length : Nat) : Int) < (t : Int)) = false := by simp; omega
  clear hwk ht
  have H1 := Lib.hid h1
  have H3 := Lib.hid h3
  have HC := Lib.hid hc
  have HKM := Lib.hid hkm
  have hB : Below w.heap.size w (w.alloc (.cells #[.slice none 0 0, .slice none 0 0, .slice none 0 0, .slice none 0 0] 67)) := (Below.refl _ _).alloc (Nat.le_refl _) _
  have hr1 := (hB.block p (Array.getElem?_eq_some_iff.1 h1).1).trans h1
  have hcp := fun j => cell_of_row _ p j _ _ _ hr1
  have HB := Lib.hid hB
  have HX := Lib.hid (heap_alloc_new w (.cells #[.slice none 0 0, .slice none 0 0, .slice none 0 0, .slice none 0 0] 67))
  have hk1 : ¬ (s.writes.length : Int) < (k : Int) := by omega
  have hk2 : (k : Int) ≤ (cw : Int) := by omega
  clear h1 h2 h3 h4 hB hr1 hc hkm
  go_enter Tryz.func21, Tryz.ntmps21
  go_wp2_with fail
  refine (HRD.out _ HB.out).mono ?_
  rintro e w1 ⟨rfl, rfl⟩
  generalize w.alloc (.cells #[.slice none 0 0, .slice none 0 0, .slice none 0 0, .slice none 0 0] 67) = W at hcp HB HX ⊢
  have hpW : p < W.heap.size := Nat.lt_of_lt_of_le (Array.getElem?_eq_some_iff.1 H1.out).1 HB.out.size
  have hgW : w.heap.size < W.heap.size := (Array.getElem?_eq_some_iff.1 HX.out).1
  have hcpA : ∀ o j, (W.alloc o).cell? ⟨p, j, none⟩ = (stCells s bn bw ch (.slice (some ⟨gk, 0, none⟩) s.writes.length cw) (.slice A0 s.base.h0.length s.base.h0.length) (.slice A1 s.base.h1.length s.base.h1.length) (.slice A2 s.base.a0.length s.base.a0.length) (.slice A3 s.base.a1.length s.base.a1.length) d0 d1 d2 d3 |>.toList.toArray)[j]? := fun o j => (World.cell?_alloc_lt W o ⟨p, j, none⟩ hpW).trans (hcp j)
  have kW := (HB.out.cell (p := ⟨gk, k * 3 + 2, none⟩) HGK.out).trans K2.out
  have kWA : ∀ o, (W.alloc o).cell? ⟨gk, k * 3 + 2, none⟩ = some (.slice Ak wk.bs.length clk) := fun o => (World.cell?_alloc_lt W o ⟨gk, k * 3 + 2, none⟩ (Nat.lt_of_lt_of_le HGK.out HB.out.size)).trans kW
  have hkk : ((k : Int) < 0) = False := by simp <;> omega
  have hkd : (decide (s.writes.length < k)) = false := by simp <;> omega
  have HGW := Lib.hid hgW
  clear hgW
  go_wp2_with fail
  have hBA : Below w.heap.size w (W.alloc (.cells #[.slice A0 s.base.h0.length s.base.h0.length, .slice A1 s.base.h1.length s.base.h1.length, .slice A2 s.base.a0.length s.base.a0.length, .slice A3 s.base.a1.length s.base.a1.length] 67)) := HB.out.alloc HB.out.size _
  have hbox := heap_alloc_new W (.cells #[.slice A0 s.base.h0.length s.base.h0.length, .slice A1 s.base.h1.length s.base.h1.length, .slice A2 s.base.a0.length s.base.a0.length, .slice A3 s.base.a1.length s.base.a1.length] 67)
  have hres := (Below.heap_alloc W (.cells #[.slice A0 s.base.h0.length s.base.h0.length, .slice A1 s.base.h1.length s.base.h1.length, .slice A2 s.base.a0.length s.base.a0.length, .slice A3 s.base.a1.length s.base.a1.length] 67) w.heap.size HGW.out).trans HX.out
  generalize W.alloc (.cells #[.slice A0 s.base.h0.length s.base.h0.length, .slice A1 s.base.h1.length s.base.h1.length, .slice A2 s.base.a0.length s.base.a0.length, .slice A3 s.base.a1.length s.base.a1.length] 67) = W2 at hBA hbox hres ⊢
  have HBA := Lib.hid hBA
  have HBX := Lib.hid hbox
  have HRS := Lib.hid hres
  have HS0 := Lib.hid (show ImgS W2 (imgV (.slice A0 s.base.h0.length s.base.h0.length) (.slice A1 s.base.h1.length s.base.h1.length) (.slice A2 s.base.a0.length s.base.a0.length) (.slice A3 s.base.a1.length s.base.a1.length)) s.base from ⟨_, _, _, _, rfl, (H3.out.f0.sl.weak (fun _ h => h.elim)).step (Step.of_below hBA), (H3.out.f1.sl.weak (fun _ h => h.elim)).step (Step.of_below hBA), (H3.out.f2.sl.weak (fun _ h => h.elim)).step (Step.of_below hBA), (H3.out.f3.sl.weak (fun _ h => h.elim)).step (Step.of_below hBA)⟩)
  clear hBA hbox hres hcp hcpA hkk hkd kW kWA hkt2 hkt3 hkt4 hkt6 hkt7 hkt8 hkt9
  go_loopw [10, 68] (fun _ i wr => ∃ j : Nat, j ≤ k ∧ i = .int .i64 j ∧ CutSt w W.heap.size (J.foldDone s.base (s.writes.take j)) wr) (fun _ i _ => k - (intOf i).toNat)
  case atStart => exact ⟨0, Nat.zero_le _, rfl, HBA.out, HRS.out, (Array.getElem?_eq_some_iff.1 HBX.out).1, _, _, _, _, HBX.out, HS0.out⟩
  case round =>
    obtain ⟨j, hj, rfl, hst⟩ := hrel
    obtain ⟨c1, c2, c3, y0, y1, y2, y3, c4, c5⟩ := hst
    have C1 := Lib.hid c1
    have C2 := Lib.hid c2
    have C3 := Lib.hid c3
    have C5 := Lib.hid c5
    obtain ⟨t0, t1, t2, t3, e, s0, s1, s2, s3⟩ := c5
    injection e with e
    injection e with e
    injection e with e0 e
    injection e with e1 e
    injection e with e2 e
    injection e with e3 e
    subst e0 e1 e2 e3
    obtain ⟨B0, l0, g0, rfl⟩ := s0.slice3
    obtain ⟨B1, l1, g1, rfl⟩ := s1.slice3
    obtain ⟨B2, l2, g2, rfl⟩ := s2.slice3
    obtain ⟨B3, l3, g3, rfl⟩ := s3.slice3
    have C4 := Lib.hid c4
    clear s0 s1 s2 s3 c1 c2 c3 c4
    by_cases hlt : j < k
    · have hjl : j < s.writes.length := by omega
      obtain ⟨g, cg, x, e, hcg, r0, r1, r2, hsx⟩ := wr_read H3.out.wrs hjl
      obtain ⟨rfl, rfl⟩ : gk = g ∧ cw = cg := by
        injection e with e1 _ e2
        injection e1 with e1
        injection e1 with e1
        exact ⟨e1, e2⟩
      obtain ⟨Ax, cx, rfl⟩ := hsx.slice_
      have hgl : gk < w.heap.size := World.block_lt_of_cell? w ⟨gk, j * 3, none⟩ r0
      have r0 := (C1.out.cell (p := ⟨gk, j * 3, none⟩) hgl).trans r0
      have r1 := (C1.out.cell (p := ⟨gk, j * 3 + 1, none⟩) hgl).trans r1
      have r2 := (C1.out.cell (p := ⟨gk, j * 3 + 2, none⟩) hgl).trans r2
      have HTK := Lib.hid (show J.foldDone s.base (s.writes.take (j + 1)) = J.done (J.foldDone s.base (s.writes.take j)) s.writes[j] s.writes[j].bs.length by rw [List.take_succ_eq_append_getElem hjl, J.fold_snoc])
      obtain ⟨w1, w2, w3, w4⟩ := HC.out.wr s.writes[j] (List.getElem_mem hjl)
      obtain ⟨z1, z2, z3, z4⟩ := HC.out.sz j
      have HSX := Lib.hid hsx
      generalize s.writes[j] = wj at r0 r1 r2 HTK w1 w2 w3 w4 HSX
      have HW := Lib.hid (And.intro w1 (And.intro w2 (And.intro w3 w4)))
      have HZ := Lib.hid (And.intro z1 (And.intro z2 (And.intro z3 z4)))
      have hlt2 : (j : Int) < (k : Int) := by omega
      have hjs : j ≤ 20000000 := by have := HKM.out; omega
      have hB3 : Below wr.heap.size wr (wr.alloc (.cells #[.int .u8 (wj.kind : Nat), .int .i64 (wj.idx : Nat), .slice Ax wj.bs.length cx] 111)) := (Below.refl _ _).alloc (Nat.le_refl _) _
      have hcbA := fun i => cell_of_row _ W.heap.size i _ _ _ ((hB3.block _ C3.out).trans C4.out)
      have HB3 := Lib.hid hB3
      clear hsx w1 w2 w3 w4 z1 z2 z3 z4 hB3
      go_wp2_with fail
      have hd := done_any (imgV (.slice B0 l0 g0) (.slice B1 l1 g1) (.slice B2 l2 g2) (.slice B3 l3 g3)) (.slice Ax wj.bs.length cx) _ wj wj.bs.length (wr.alloc (.cells #[.int .u8 (wj.kind : Nat), .int .i64 (wj.idx : Nat), .slice Ax wj.bs.length cx] 111)) (C5.out.below HB3.out) (HSX.out.step (Step.of_below (below_trans (Nat.le_refl _) C1.out HB3.out))) HW.out.1 HW.out.2.1 (Nat.le_refl _) HW.out.2.2.2 (by have := HW.out.2.2.1; omega) HZ.out.1 HZ.out.2.1 HZ.out.2.2.1 HZ.out.2.2.2
      refine hd.mono ?_
      rintro e w5 ⟨v5, rfl, himg, hb5⟩
      clear hd
      have HI := Lib.hid himg
      obtain ⟨u0, u1, u2, u3, rfl, q0, q1, q2, q3⟩ := himg
      obtain ⟨D0, m0, f0, rfl⟩ := q0.slice3
      obtain ⟨D1, m1, f1, rfl⟩ := q1.slice3
      obtain ⟨D2, m2, f2, rfl⟩ := q2.slice3
      obtain ⟨D3, m3, f3, rfl⟩ := q3.slice3
      have hbw : Below wr.heap.size wr w5 := below_trans (by exact Nat.le_refl _) HB3.out (hb5.mono (by simp))
      have HBW := Lib.hid hbw
      have HR5 := Lib.hid ((hbw.block _ C3.out).trans C4.out)
      have hc5 := fun i => cell_of_row w5 W.heap.size i _ _ _ HR5.out
      have hf5 := frozen_row HR5.out
      clear q0 q1 q2 q3 hb5 hbw hcbA
      go_wp2_with fail
      go_roundw
      case rel =>
        have hg := grown_set (grown_set (grown_set (grown_set (World.grownBy.refl w5 (some W.heap.size)) 0 (.slice D0 m0 f0)) 1 (.slice D1 m1 f1)) 2 (.slice D2 m2 f2)) 3 (.slice D3 m3 f3)
        have hrow := blk_set (blk_set (blk_set (blk_set HR5.out 0 (.slice D0 m0 f0)) 1 (.slice D1 m1 f1)) 2 (.slice D2 m2 f2)) 3 (.slice D3 m3 f3)
        refine ⟨j + 1, by omega, by go_num, ?_⟩
        rw [HTK.out]
        have hcs := cut_box HR5.out HI.out hg hrow
        refine ⟨(below_trans (Nat.le_refl _) C1.out HBW.out).grown hg (Nat.le_trans C1.out.size HBW.out.size) (fun k e => by cases e; exact Nat.le_of_lt HGW.out), ?_, ?_, _, _, _, _, hrow, hcs⟩
        · exact (hg.block _ (Nat.lt_of_lt_of_le HGW.out (Nat.le_trans (Nat.le_of_lt C3.out) HBW.out.size)) (fun e => by injection e with e; have := HGW.out; omega)).trans ((HBW.out.block _ (Nat.lt_trans HGW.out C3.out)).trans C2.out)
        · exact Nat.lt_of_lt_of_le C3.out (Nat.le_trans HBW.out.size hg.size)
      case measure =>
        simp [intOf]
        omega
    · obtain rfl : j = k := by omega
      have hcb := fun i => cell_of_row wr W.heap.size i _ _ _ C4.out
      go_upto_region 12 with fail
      clear hcb
      have G0 := Lib.hid ((C1.out.cell (p := ⟨gk, j * 3, none⟩) HGK.out).trans K0.out)
      have G1 := Lib.hid ((C1.out.cell (p := ⟨gk, j * 3 + 1, none⟩) HGK.out).trans K1.out)
      have G2 := Lib.hid ((C1.out.cell (p := ⟨gk, j * 3 + 2, none⟩) HGK.out).trans K2.out)
      have HP := Lib.hid ((C1.out.block p (Array.getElem?_eq_some_iff.1 H1.out).1).trans H1.out)
      have HGR := Lib.hid (Nat.lt_of_lt_of_le HGK.out C1.out.size)
      refine wp_region_plan 10 [(0, false), (1, false), (2, false), (3, false), (4, false), (5, false), (6, false), (7, false), (8, false), (9, true)] (CutS2 p W.heap.size gk (j * 3) (stCells s bn bw ch (.slice (some ⟨gk, 0, none⟩) s.writes.length cw) (.slice A0 s.base.h0.length s.base.h0.length) (.slice A1 s.base.h1.length s.base.h1.length) (.slice A2 s.base.a0.length s.base.a0.length) (.slice A3 s.base.a1.length s.base.a1.length) d0 d1 d2 d3) #[.slice B0 l0 g0, .slice B1 l1 g1, .slice B2 l2 g2, .slice B3 l3 g3] (.int .u8 (wk.kind : Nat)) (.int .i64 (wk.idx : Nat)) (.slice Ak wk.bs.length clk)) (by kernel_rfl) (by kernel_rfl) (fun c a d v w h => by cases d <;> exact h) ⟨HP.out, C4.out, G0.out, G1.out, G2.out⟩ ?_
      repeat
        refine wpPlan_read (v := ?_) (by rfl) (by rfl) (fun w' hS => ?_) (fun K hK => ?_)
        rotate_left
        · obtain ⟨hS1, hS2, hS3, hS4, hS5⟩ := hS
          have hcp := fun i => cell_of_row w' p i _ _ _ hS1
          have hcq := fun i => cell_of_row w' W.heap.size i _ _ _ hS2
          clear hS1 hS2
          go_simp
          try with_reducible rfl
        go_simp
        refine hK _ ?_
        clear hK K
      refine wpPlan_write (by rfl) (fun K hK => ?_)
      go_simp
      have HZ := Lib.hid (HC.out.sz j)
      have hd := done_any (imgV (.slice B0 l0 g0) (.slice B1 l1 g1) (.slice B2 l2 g2) (.slice B3 l3 g3)) (.slice Ak wk.bs.length clk) _ wk t wr.drew (C5.out.below (Below.refl _ wr).drew) (HSK.out.step (Step.of_below C1.out.drew)) HWK.out.1 HWK.out.2.1 HTT.out HWK.out.2.2.2 (by have := HWK.out.2.2.1; omega) HZ.out.1 HZ.out.2.1 HZ.out.2.2.1 HZ.out.2.2.2
      refine hd.mono ?_
      rintro e w5 ⟨v5, rfl, himg, hb5⟩
      clear hd
      have hmt : J.done (J.foldDone s.base (s.writes.take j)) wk t = J.done (J.foldDone s.base (s.writes.take j)) wk t := rfl
      have hmz := done_small (J.foldDone s.base (s.writes.take j)) wk t (by have := HWK.out.2.2.1; omega) HZ.out.1 HZ.out.2.1 HZ.out.2.2.1 HZ.out.2.2.2
      generalize hmt2 : J.done (J.foldDone s.base (s.writes.take j)) wk t = mt at himg hmz
      have HMT := Lib.hid hmt2
      have HMZ := Lib.hid hmz
      clear hmt hmt2 hmz
      have HI := Lib.hid himg
      obtain ⟨u0, u1, u2, u3, rfl, q0, q1, q2, q3⟩ := himg
      obtain ⟨E0, n0, f0, rfl⟩ := q0.slice3
      obtain ⟨E1, n1, f1, rfl⟩ := q1.slice3
      obtain ⟨E2, n2, f2, rfl⟩ := q2.slice3
      obtain ⟨E3, n3, f3, rfl⟩ := q3.slice3
      have hbw : Below wr.heap.size wr w5 := below_drew_l hb5
      have HBW := Lib.hid hbw
      have HR5 := Lib.hid ((hbw.block _ C3.out).trans C4.out)
      have HS5 : Hid (CutS2 p W.heap.size gk (j * 3) (stCells s bn bw ch (.slice (some ⟨gk, 0, none⟩) s.writes.length cw) (.slice A0 s.base.h0.length s.base.h0.length) (.slice A1 s.base.h1.length s.base.h1.length) (.slice A2 s.base.a0.length s.base.a0.length) (.slice A3 s.base.a1.length s.base.a1.length) d0 d1 d2 d3) #[.slice B0 l0 g0, .slice B1 l1 g1, .slice B2 l2 g2, .slice B3 l3 g3] (.int .u8 (wk.kind : Nat)) (.int .i64 (wk.idx : Nat)) (.slice Ak wk.bs.length clk) w5) :=
        ⟨(hbw.block p (Array.getElem?_eq_some_iff.1 HP.out).1).trans HP.out, (hbw.block _ C3.out).trans C4.out, (hbw.cell (p := ⟨gk, j * 3, none⟩) HGR.out).trans G0.out, (hbw.cell (p := ⟨gk, j * 3 + 1, none⟩) HGR.out).trans G1.out, (hbw.cell (p := ⟨gk, j * 3 + 2, none⟩) HGR.out).trans G2.out⟩
      refine hK.out _ _ HS5.out ?_
      clear hK K q0 q1 q2 q3 hb5 hbw
      have hc5 := fun i => cell_of_row w5 W.heap.size i _ _ _ HR5.out
      have hf5 := frozen_row HR5.out
      show wpList _ _ _ _ _ _
      go_upto_region 13 with fail
      have hg := grown_set (grown_set (grown_set (grown_set (World.grownBy.refl w5 (some W.heap.size)) 0 (.slice E0 n0 f0)) 1 (.slice E1 n1 f1)) 2 (.slice E2 n2 f2)) 3 (.slice E3 n3 f3)
      have hrow := blk_set (blk_set (blk_set (blk_set HR5.out 0 (.slice E0 n0 f0)) 1 (.slice E1 n1 f1)) 2 (.slice E2 n2 f2)) 3 (.slice E3 n3 f3)
      have himg6 := cut_box HR5.out HI.out hg hrow
      have hb6 := (below_trans (Nat.le_refl _) C1.out HBW.out).grown hg (Nat.le_trans C1.out.size HBW.out.size) (fun k e => by cases e; exact Nat.le_of_lt HGW.out)
      have hx6 := (hg.block _ (Nat.lt_of_lt_of_le HGW.out (Nat.le_trans (Nat.le_of_lt C3.out) HBW.out.size)) (fun e => by injection e with e; have := HGW.out; omega)).trans ((HBW.out.block _ (Nat.lt_trans HGW.out C3.out)).trans C2.out)
      generalize (((w5.setCell ⟨W.heap.size, 0, none⟩ (.slice E0 n0 f0)).setCell ⟨W.heap.size, 1, none⟩ (.slice E1 n1 f1)).setCell ⟨W.heap.size, 2, none⟩ (.slice E2 n2 f2)).setCell ⟨W.heap.size, 3, none⟩ (.slice E3 n3 f3) = w6 at hrow himg6 hb6 hx6 ⊢
      have HB6 := Lib.hid hb6
      have HX6 := Lib.hid hx6
      have HL6 := Lib.hid (show w.heap.size < w6.heap.size from (Array.getElem?_eq_some_iff.1 hx6).1)
      have hcb := fun i => cell_of_row w6 W.heap.size i _ _ _ hrow
      obtain ⟨z0, z1, z2, z3, e, r0, r1, r2, r3⟩ := himg6
      injection e with e
      injection e with e
      injection e with e0 e
      injection e with e1 e
      injection e with e2 e
      injection e with e3 e
      subst e0 e1 e2 e3
      clear hg hrow hb6 hx6 hc5 hf5
      have HCI := Lib.hid (copiedImage_any E0 E1 E2 E3 n0 n1 n2 n3 f0 f1 f2 f3 mt NoM w6 r0 r1 r2 r3 HMZ.out.1 HMZ.out.2.1 HMZ.out.2.2.1 HMZ.out.2.2.2)
      clear r0 r1 r2 r3
      go_wp2_with fail
      refine HCI.out.mono ?_
      rintro e w7 ⟨v7, rfl, himg, hb5⟩
      obtain ⟨x0, x1, x2, x3, rfl, q0, q1, q2, q3⟩ := himg
      obtain ⟨D0, rfl⟩ := q0.slice_
      obtain ⟨D1, rfl⟩ := q1.slice_
      obtain ⟨D2, rfl⟩ := q2.slice_
      obtain ⟨D3, rfl⟩ := q3.slice_
      have V0 := Lib.hid q0
      have V1 := Lib.hid q1
      have V2 := Lib.hid q2
      have V3 := Lib.hid q3
      have hlr : w.heap.size < w6.heap.size := HL6.out
      have HLR := Lib.hid hlr
      have HX2 := Lib.hid ((hb5.block w.heap.size hlr).trans HX6.out)
      have hcr := fun i => cell_of_row w7 w.heap.size i _ _ _ HX2.out
      have hfr := frozen_row HX2.out
      have HB2 := Lib.hid (below_trans (Nat.le_refl _) HB6.out hb5)
      clear q0 q1 q2 q3 hb5 hlr hcb HCI C5
      go_wp2_with fail
      have hrow := blk_set (blk_set (blk_set (blk_set HX2.out 0 (.slice D0 mt.h0.length mt.h0.length)) 1 (.slice D1 mt.h1.length mt.h1.length)) 2 (.slice D2 mt.a0.length mt.a0.length)) 3 (.slice D3 mt.a1.length mt.a1.length)
      refine bodyPost_ret (results_row_tmp rfl _ _ w.heap.size _ _ _ _ rfl hrow Tryz.underlying67 rfl (by kernel_rfl)) rfl ?_
      have hg := grown_set (grown_set (grown_set (grown_set (World.grownBy.refl w7 (some w.heap.size)) 0 (.slice D0 mt.h0.length mt.h0.length)) 1 (.slice D1 mt.h1.length mt.h1.length)) 2 (.slice D2 mt.a0.length mt.a0.length)) 3 (.slice D3 mt.a1.length mt.a1.length)
      have hs : Step (· < w6.heap.size) (· < w6.heap.size) w7 _ := Step.of_grown hg (fun k e _ => by cases e; exact HLR.out)
      have hw : ∀ k, k < w.heap.size → k < w6.heap.size := fun k hk => Nat.lt_trans hk HLR.out
      rw [HMT.out]
      exact ⟨_, rfl, ⟨_, _, _, _, rfl, (V0.out.step hs).weak hw, (V1.out.step hs).weak hw, (V2.out.step hs).weak hw, (V3.out.step hs).weak hw⟩, HB2.out.grown hg HB2.out.size (fun k e => by cases e; exact Nat.le_refl _)⟩
end Go.Proofs.YtjbepnkchoaipaaGreat
