import Derived.Test.YtjbepnkchoaipaaGreatM20
import Derived.Test.YtjbepnkchoaipaaGreatM21
import Derived.Test.YtjbepnkchoaipaaGreatM00
set_option linter.unusedVariables false
set_option linter.unusedSimpArgs false
/- Contract: Cut. -/
namespace Go.Proofs.YtjbepnkchoaipaaGreat
open Go.RowKit Go.Lib
set_option maxRecDepth 100000
/-- What Cut needs: the writes are writes, and all that is small. -/
structure CutOk (s : J.St) : Prop where
  wr : ∀ wr ∈ s.writes, wr.kind ≤ 2 ∧ wr.idx ≤ 1 ∧ wr.bs.length ≤ 20000000 ∧ (wr.kind ≠ 1 → 0 < wr.bs.length)
  sz : ∀ k, (J.foldDone s.base (s.writes.take k)).h0.length ≤ 40000000 ∧ (J.foldDone s.base (s.writes.take k)).h1.length ≤ 40000000 ∧ (J.foldDone s.base (s.writes.take k)).a0.length ≤ 40000000 ∧ (J.foldDone s.base (s.writes.take k)).a1.length ≤ 40000000
/-- What is read of a row of writes. -/
theorem wr_cells {L : List J.Wr} {vs : List Value} : ∀ {i : Nat} (hi : i < L.length) (hi' : i < vs.length), (wrCells L vs)[i * 3]? = some (.int .u8 (L[i].kind : Nat)) ∧ (wrCells L vs)[i * 3 + 1]? = some (.int .i64 (L[i].idx : Nat)) ∧ (wrCells L vs)[i * 3 + 2]? = some vs[i] := by
  induction L generalizing vs with
  | nil => intro i hi; simp at hi
  | cons c t ih =>
    intro i hi hi'
    cases vs with
    | nil => simp at hi'
    | cons x vs =>
      have e : wrCells (c :: t) (x :: vs) = .int .u8 (c.kind : Nat) :: .int .i64 (c.idx : Nat) :: x :: wrCells t vs := rfl
      cases i with
      | zero => rw [e]; exact ⟨rfl, rfl, rfl⟩
      | succ k =>
        have := ih (vs := vs) (i := k) (by simp at hi; omega) (by simp at hi'; omega)
        rw [e, show (k + 1) * 3 = k * 3 + 3 by omega]
        simpa using this
theorem wr_read {w : World} {M : Nat → Prop} {v : Value} {L : List J.Wr} (h : WrRow w M v L) {k : Nat} (hk : k < L.length) : ∃ g c x, v = .slice (some ⟨g, 0, none⟩) L.length c ∧ L.length ≤ c ∧ w.cell? ⟨g, k * 3, none⟩ = some (.int .u8 (L[k].kind : Nat)) ∧ w.cell? ⟨g, k * 3 + 1, none⟩ = some (.int .i64 (L[k].idx : Nat)) ∧ w.cell? ⟨g, k * 3 + 2, none⟩ = some x ∧ Sl w NoM x L[k].bs := by
  obtain ⟨vs, h1, h2, h3, h4⟩ := h
  rcases h2.2 with ⟨rfl, h0⟩ | ⟨g, cap, cur, rfl, hbase, hb, hc1, hc2, hc3, hc4⟩
  · omega
  · have hcell : ∀ j, j < 3 → w.cell? ⟨g, k * 3 + j, none⟩ = (wrCells L vs)[k * 3 + j]? := fun j hj => h2.cellAt (k * 3 + j) (by omega)
    obtain ⟨e0, e1, e2⟩ := wr_cells hk (show k < vs.length by omega)
    exact ⟨g, cap, vs[k]'(by omega), rfl, hc1, (hcell 0 (by omega)).trans e0, (hcell 1 (by omega)).trans e1, (hcell 2 (by omega)).trans e2, (h4 k hk (by omega)).weak (fun _ h => h.elim)⟩
theorem wr_slice {w : World} {M : Nat → Prop} {v : Value} {L : List J.Wr} (h : WrRow w M v L) : ∃ A c, v = .slice A L.length c ∧ L.length ≤ c := by
  obtain ⟨vs, h1, h2, h3, h4⟩ := h
  rcases h2.2 with ⟨rfl, h0⟩ | ⟨g, cap, cur, rfl, hbase, hb, hc1, _⟩
  · exact ⟨none, 0, by rw [h0], by omega⟩
  · exact ⟨_, _, rfl, hc1⟩
theorem sl_ne_box {w : World} {g : Nat} {t : TypeId} {x0 x1 x2 x3 v : Value} {l : List UInt8} (h : Sl w NoM v l) (hg : w.heap[g]? = some (.cells #[x0, x1, x2, x3] t (0, 0))) (h0 : ∃ A n c, x0 = .slice A n c) (h1 : ∃ A n c, x1 = .slice A n c) (h2 : ∃ A n c, x2 = .slice A n c) (h3 : ∃ A n c, x3 = .slice A n c) : Sl w (· = g) v l := by
  rcases h with h | ⟨b, o, c, e, h4, h5, h6⟩
  · exact .inl h
  · refine .inr ⟨b, o, c, e, h4, h5, h6.1, fun hn => ?_⟩
    obtain ⟨b', o', e', hb', _, hc⟩ := h6.2 hn
    refine ⟨b', o', e', hb', fun hbg => ?_, hc⟩
    have hbg : b' = g := hbg
    subst hbg
    have := (cell_of_row w b' (o' + 0) _ _ _ hg).symm.trans (hc 0 hn)
    obtain ⟨_, _, _, rfl⟩ := h0
    obtain ⟨_, _, _, rfl⟩ := h1
    obtain ⟨_, _, _, rfl⟩ := h2
    obtain ⟨_, _, _, rfl⟩ := h3
    rcases o' with _ | _ | _ | _ | o' <;> simp at this
theorem cut_box {w5 w6 : World} {g : Nat} {t : TypeId} {y0 y1 y2 y3 : Value} {fr : Nat × Nat} {m : J.Img} {B0 B1 B2 B3 : Option Addr} {k0 k1 k2 k3 e0 e1 e2 e3 : Nat} (h : w5.heap[g]? = some (.cells #[.slice B0 k0 e0, .slice B1 k1 e1, .slice B2 k2 e2, .slice B3 k3 e3] t (0, 0))) (hi : ImgS w5 (imgV y0 y1 y2 y3) m) (hg : w5.grownBy w6 (some g))
    {C : Array Value} (_hrow : w6.heap[g]? = some (.cells C t fr)) : ImgS w6 (imgV y0 y1 y2 y3) m := by
  obtain ⟨z0, z1, z2, z3, e, q0, q1, q2, q3⟩ := hi
  have hs : Step (· = g) (· = g) w5 w6 := Step.of_grown hg (fun k e _ => by injection e with e; exact e.symm)
  have f : ∀ {v : Value} {l : List UInt8}, Sl w5 NoM v l → Sl w6 NoM v l := fun q => ((sl_ne_box q h ⟨_, _, _, rfl⟩ ⟨_, _, _, rfl⟩ ⟨_, _, _, rfl⟩ ⟨_, _, _, rfl⟩).step hs).weak (fun _ h => h.elim)
  exact ⟨z0, z1, z2, z3, e, f q0, f q1, f q2, f q3⟩
/-- What holds while Cut writes the writes to its image. -/
def CutSt (w : World) (g : Nat) (m : J.Img) (wr : World) : Prop :=
  Below w.heap.size w wr ∧ wr.heap[w.heap.size]? = some (.cells #[.slice none 0 0, .slice none 0 0, .slice none 0 0, .slice none 0 0] 67 (0, 0)) ∧ g < wr.heap.size ∧ ∃ y0 y1 y2 y3, wr.heap[g]? = some (.cells #[y0, y1, y2, y3] 67 (0, 0)) ∧ ImgS wr (imgV y0 y1 y2 y3) m
set_option maxHeartbeats 8000000 in
theorem cut_whole (p : Nat) (M : Nat → Prop) (s : J.St) (k : Nat) (w : World) (h : StoreR w p M s) (hc : CutOk s) (hk : k ≤ s.writes.length) (hkm : s.writes.length ≤ 20000000) :
    Calls Tryz.prog 21 #[.pointer (some ⟨p, 0, none⟩), .int .i64 k, .int .i64 0] w fun e w' => ∃ v, e = .returned (.tuple #[v, .int .i64 0]) ∧ ImgC w' (· < w.heap.size) v (J.foldDone s.base (s.writes.take k)) ∧ Below w.heap.size w w' := by
  have HRD := Lib.hid (fun w1 (hb : Below w.heap.size w w1) => ready_any p M s w1 (h.below hb))
  obtain ⟨bn, bw, ch, wr, b0, b1, b2, b3, d0, d1, d2, d3, h1, h2, h3, h4⟩ := h
  obtain ⟨Aw, cw, rfl, hcw⟩ := wr_slice h3.wrs
  obtain ⟨A0, rfl⟩ := h3.f0.slice_
  obtain ⟨A1, rfl⟩ := h3.f1.slice_
  obtain ⟨A2, rfl⟩ := h3.f2.slice_
  obtain ⟨A3, rfl⟩ := h3.f3.slice_
  have H1 := Lib.hid h1
  have H3 := Lib.hid h3
  have HC := Lib.hid hc
  have HKM := Lib.hid hkm
  have hB : Below w.heap.size w (w.alloc (.cells #[.slice none 0 0, .slice none 0 0, .slice none 0 0, .slice none 0 0] 67)) := (Below.refl _ _).alloc (Nat.le_refl _) _
  have hr1 := (hB.block p (Array.getElem?_eq_some_iff.1 h1).1).trans h1
  have hcp := fun j => cell_of_row _ p j _ _ _ hr1
  have HB := Lib.hid hB
  have HX := Lib.hid (heap_alloc_new w (.cells #[.slice none 0 0, .slice none 0 0, .slice none 0 0, .slice none 0 0] 67))
  have hk1 : ¬ (s.writes.length : Int) < (k : Int) := by omega
  have hk2 : (k : Int) ≤ (cw : Int) := by omega
  clear h1 h2 h3 h4 hB hr1 hc hkm
  go_enter Tryz.func21, Tryz.ntmps21
  go_wp2_with fail
  refine (HRD.out _ HB.out).mono ?_
  rintro e w1 ⟨rfl, rfl⟩
  generalize w.alloc (.cells #[.slice none 0 0, .slice none 0 0, .slice none 0 0, .slice none 0 0] 67) = W at hcp HB HX ⊢
  have hpW : p < W.heap.size := Nat.lt_of_lt_of_le (Array.getElem?_eq_some_iff.1 H1.out).1 HB.out.size
  have hgW : w.heap.size < W.heap.size := (Array.getElem?_eq_some_iff.1 HX.out).1
  have hcpA : ∀ o j, (W.alloc o).cell? ⟨p, j, none⟩ = (stCells s bn bw ch (.slice Aw s.writes.length cw) (.slice A0 s.base.h0.length s.base.h0.length) (.slice A1 s.base.h1.length s.base.h1.length) (.slice A2 s.base.a0.length s.base.a0.length) (.slice A3 s.base.a1.length s.base.a1.length) d0 d1 d2 d3 |>.toList.toArray)[j]? := fun o j => (World.cell?_alloc_lt W o ⟨p, j, none⟩ hpW).trans (hcp j)
  have hkk : ((k : Int) < 0) = False := by simp <;> omega
  have hkd : (decide (s.writes.length < k)) = false := by simp <;> omega
  have HGW := Lib.hid hgW
  clear hgW
  go_wp2_with fail
  have hBA : Below w.heap.size w (W.alloc (.cells #[.slice A0 s.base.h0.length s.base.h0.length, .slice A1 s.base.h1.length s.base.h1.length, .slice A2 s.base.a0.length s.base.a0.length, .slice A3 s.base.a1.length s.base.a1.length] 67)) := HB.out.alloc HB.out.size _
  have hbox := heap_alloc_new W (.cells #[.slice A0 s.base.h0.length s.base.h0.length, .slice A1 s.base.h1.length s.base.h1.length, .slice A2 s.base.a0.length s.base.a0.length, .slice A3 s.base.a1.length s.base.a1.length] 67)
  have hres := (Below.heap_alloc W (.cells #[.slice A0 s.base.h0.length s.base.h0.length, .slice A1 s.base.h1.length s.base.h1.length, .slice A2 s.base.a0.length s.base.a0.length, .slice A3 s.base.a1.length s.base.a1.length] 67) w.heap.size HGW.out).trans HX.out
  generalize W.alloc (.cells #[.slice A0 s.base.h0.length s.base.h0.length, .slice A1 s.base.h1.length s.base.h1.length, .slice A2 s.base.a0.length s.base.a0.length, .slice A3 s.base.a1.length s.base.a1.length] 67) = W2 at hBA hbox hres ⊢
  have HBA := Lib.hid hBA
  have HBX := Lib.hid hbox
  have HRS := Lib.hid hres
  have HS0 := Lib.hid (show ImgS W2 (imgV (.slice A0 s.base.h0.length s.base.h0.length) (.slice A1 s.base.h1.length s.base.h1.length) (.slice A2 s.base.a0.length s.base.a0.length) (.slice A3 s.base.a1.length s.base.a1.length)) s.base from ⟨_, _, _, _, rfl, (H3.out.f0.sl.weak (fun _ h => h.elim)).step (Step.of_below hBA), (H3.out.f1.sl.weak (fun _ h => h.elim)).step (Step.of_below hBA), (H3.out.f2.sl.weak (fun _ h => h.elim)).step (Step.of_below hBA), (H3.out.f3.sl.weak (fun _ h => h.elim)).step (Step.of_below hBA)⟩)
  clear hBA hbox hres hcp hcpA hkk hkd
  go_loopw [10, 68] (fun _ i wr => ∃ j : Nat, j ≤ k ∧ i = .int .i64 j ∧ CutSt w W.heap.size (J.foldDone s.base (s.writes.take j)) wr) (fun _ i _ => k - (intOf i).toNat)
  case atStart => exact ⟨0, Nat.zero_le _, rfl, HBA.out, HRS.out, (Array.getElem?_eq_some_iff.1 HBX.out).1, _, _, _, _, HBX.out, HS0.out⟩
  case round =>
    obtain ⟨j, hj, rfl, hst⟩ := hrel
    obtain ⟨c1, c2, c3, y0, y1, y2, y3, c4, c5⟩ := hst
    have C1 := Lib.hid c1
    have C2 := Lib.hid c2
    have C3 := Lib.hid c3
    have C5 := Lib.hid c5
    obtain ⟨t0, t1, t2, t3, e, s0, s1, s2, s3⟩ := c5
    injection e with e
    injection e with e
    injection e with e0 e
    injection e with e1 e
    injection e with e2 e
    injection e with e3 e
    subst e0 e1 e2 e3
    obtain ⟨B0, l0, g0, rfl⟩ := s0.slice3
    obtain ⟨B1, l1, g1, rfl⟩ := s1.slice3
    obtain ⟨B2, l2, g2, rfl⟩ := s2.slice3
    obtain ⟨B3, l3, g3, rfl⟩ := s3.slice3
    have C4 := Lib.hid c4
    clear s0 s1 s2 s3 c1 c2 c3 c4
    by_cases hlt : j < k
    · have hjl : j < s.writes.length := by omega
      obtain ⟨g, cg, x, e, hcg, r0, r1, r2, hsx⟩ := wr_read H3.out.wrs hjl
      injection e with e1 _ e2
      subst e1 e2
      obtain ⟨Ax, cx, rfl⟩ := hsx.slice_
      have hgl : g < w.heap.size := World.block_lt_of_cell? w ⟨g, j * 3, none⟩ r0
      have r0 := (C1.out.cell (p := ⟨g, j * 3, none⟩) hgl).trans r0
      have r1 := (C1.out.cell (p := ⟨g, j * 3 + 1, none⟩) hgl).trans r1
      have r2 := (C1.out.cell (p := ⟨g, j * 3 + 2, none⟩) hgl).trans r2
      have HTK := Lib.hid (show J.foldDone s.base (s.writes.take (j + 1)) = J.done (J.foldDone s.base (s.writes.take j)) s.writes[j] s.writes[j].bs.length by rw [List.take_succ_eq_append_getElem hjl, J.fold_snoc])
      obtain ⟨w1, w2, w3, w4⟩ := HC.out.wr s.writes[j] (List.getElem_mem hjl)
      obtain ⟨z1, z2, z3, z4⟩ := HC.out.sz j
      have HSX := Lib.hid hsx
      generalize s.writes[j] = wj at r0 r1 r2 HTK w1 w2 w3 w4 HSX
      have HW := Lib.hid (And.intro w1 (And.intro w2 (And.intro w3 w4)))
      have HZ := Lib.hid (And.intro z1 (And.intro z2 (And.intro z3 z4)))
      have hlt2 : (j : Int) < (k : Int) := by omega
      have hjs : j ≤ 20000000 := by have := HKM.out; omega
      have hB3 : Below wr.heap.size wr (wr.alloc (.cells #[.int .u8 (wj.kind : Nat), .int .i64 (wj.idx : Nat), .slice Ax wj.bs.length cx] 111)) := (Below.refl _ _).alloc (Nat.le_refl _) _
      have hcbA := fun i => cell_of_row _ W.heap.size i _ _ _ ((hB3.block _ C3.out).trans C4.out)
      have HB3 := Lib.hid hB3
      clear hsx w1 w2 w3 w4 z1 z2 z3 z4 hB3
      go_wp2_with fail
      have hd := done_any (imgV (.slice B0 l0 g0) (.slice B1 l1 g1) (.slice B2 l2 g2) (.slice B3 l3 g3)) (.slice Ax wj.bs.length cx) _ wj wj.bs.length (wr.alloc (.cells #[.int .u8 (wj.kind : Nat), .int .i64 (wj.idx : Nat), .slice Ax wj.bs.length cx] 111)) (C5.out.below HB3.out) (HSX.out.step (Step.of_below (below_trans (Nat.le_refl _) C1.out HB3.out))) HW.out.1 HW.out.2.1 (Nat.le_refl _) HW.out.2.2.2 (by have := HW.out.2.2.1; omega) HZ.out.1 HZ.out.2.1 HZ.out.2.2.1 HZ.out.2.2.2
      refine hd.mono ?_
      rintro e w5 ⟨v5, rfl, himg, hb5⟩
      clear hd
      have HI := Lib.hid himg
      obtain ⟨u0, u1, u2, u3, rfl, q0, q1, q2, q3⟩ := himg
      obtain ⟨D0, m0, f0, rfl⟩ := q0.slice3
      obtain ⟨D1, m1, f1, rfl⟩ := q1.slice3
      obtain ⟨D2, m2, f2, rfl⟩ := q2.slice3
      obtain ⟨D3, m3, f3, rfl⟩ := q3.slice3
      have hbw : Below wr.heap.size wr w5 := below_trans (by exact Nat.le_refl _) HB3.out (hb5.mono (by simp))
      have HBW := Lib.hid hbw
      have HR5 := Lib.hid ((hbw.block _ C3.out).trans C4.out)
      have hc5 := fun i => cell_of_row w5 W.heap.size i _ _ _ HR5.out
      have hf5 := frozen_row HR5.out
      clear q0 q1 q2 q3 hb5 hbw hcbA
      go_wp2_with fail
      go_roundw
      case rel =>
        have hg := grown_set (grown_set (grown_set (grown_set (World.grownBy.refl w5 (some W.heap.size)) 0 (.slice D0 m0 f0)) 1 (.slice D1 m1 f1)) 2 (.slice D2 m2 f2)) 3 (.slice D3 m3 f3)
        have hrow := blk_set (blk_set (blk_set (blk_set HR5.out 0 (.slice D0 m0 f0)) 1 (.slice D1 m1 f1)) 2 (.slice D2 m2 f2)) 3 (.slice D3 m3 f3)
        refine ⟨j + 1, by omega, by go_num, ?_⟩
        rw [HTK.out]
        have hcs := cut_box HR5.out HI.out hg hrow
        refine ⟨(below_trans (Nat.le_refl _) C1.out HBW.out).grown hg (Nat.le_trans C1.out.size HBW.out.size) (fun k e => by cases e; exact Nat.le_of_lt HGW.out), ?_, ?_, _, _, _, _, hrow, hcs⟩
        · exact (hg.block _ (Nat.lt_of_lt_of_le HGW.out (Nat.le_trans (Nat.le_of_lt C3.out) HBW.out.size)) (fun e => by injection e with e; have := HGW.out; omega)).trans ((HBW.out.block _ (Nat.lt_trans HGW.out C3.out)).trans C2.out)
        · exact Nat.lt_of_lt_of_le C3.out (Nat.le_trans HBW.out.size hg.size)
      case measure =>
        simp [intOf]
        omega
    · obtain rfl : j = k := by omega
      have hcb := fun i => cell_of_row wr W.heap.size i _ _ _ C4.out
      have HZ := Lib.hid (HC.out.sz j)
      obtain ⟨t0, t1, t2, t3, e, s0, s1, s2, s3⟩ := C5.out
      injection e with e
      injection e with e
      injection e with e0 e
      injection e with e1 e
      injection e with e2 e
      injection e with e3 e
      subst e0 e1 e2 e3
      have HCI := Lib.hid (copiedImage_any B0 B1 B2 B3 l0 l1 l2 l3 g0 g1 g2 g3 _ NoM wr s0 s1 s2 s3 (by have := HZ.out.1; omega) (by have := HZ.out.2.1; omega) (by have := HZ.out.2.2.1; omega) (by have := HZ.out.2.2.2; omega))
      clear s0 s1 s2 s3
      go_wp2_with fail
      refine HCI.out.mono ?_
      rintro e w5 ⟨v5, rfl, himg, hb5⟩
      obtain ⟨x0, x1, x2, x3, rfl, q0, q1, q2, q3⟩ := himg
      obtain ⟨D0, rfl⟩ := q0.slice_
      obtain ⟨D1, rfl⟩ := q1.slice_
      obtain ⟨D2, rfl⟩ := q2.slice_
      obtain ⟨D3, rfl⟩ := q3.slice_
      have V0 := Lib.hid q0
      have V1 := Lib.hid q1
      have V2 := Lib.hid q2
      have V3 := Lib.hid q3
      have hlr : w.heap.size < wr.heap.size := Nat.lt_trans HGW.out C3.out
      have HLR := Lib.hid hlr
      have HX2 := Lib.hid ((hb5.block w.heap.size hlr).trans C2.out)
      have hcr := fun i => cell_of_row w5 w.heap.size i _ _ _ HX2.out
      have hfr := frozen_row HX2.out
      have HB2 := Lib.hid (below_trans (Nat.le_refl _) C1.out hb5)
      generalize hmm : J.foldDone s.base (s.writes.take j) = mm at V0 V1 V2 V3 hcr ⊢
      have HMM := Lib.hid hmm
      clear hmm
      clear q0 q1 q2 q3 hb5 hlr hcb HCI HZ C5
      go_wp2_with fail
      have hrow := blk_set (blk_set (blk_set (blk_set HX2.out 0 (.slice D0 mm.h0.length mm.h0.length)) 1 (.slice D1 mm.h1.length mm.h1.length)) 2 (.slice D2 mm.a0.length mm.a0.length)) 3 (.slice D3 mm.a1.length mm.a1.length)
      refine bodyPost_ret (results_row_tmp rfl _ _ w.heap.size _ _ _ _ rfl hrow Tryz.underlying67 rfl (by kernel_rfl)) rfl ?_
      have hg := grown_set (grown_set (grown_set (grown_set (World.grownBy.refl w5 (some w.heap.size)) 0 (.slice D0 mm.h0.length mm.h0.length)) 1 (.slice D1 mm.h1.length mm.h1.length)) 2 (.slice D2 mm.a0.length mm.a0.length)) 3 (.slice D3 mm.a1.length mm.a1.length)
      have hs : Step (· < wr.heap.size) (· < wr.heap.size) w5 _ := Step.of_grown hg (fun k e _ => by cases e; exact HLR.out)
      have hw : ∀ k, k < w.heap.size → k < wr.heap.size := fun k hk => Nat.lt_trans hk HLR.out
      rw [HMM.out]
      exact ⟨_, rfl, ⟨_, _, _, _, rfl, (V0.out.step hs).weak hw, (V1.out.step hs).weak hw, (V2.out.step hs).weak hw, (V3.out.step hs).weak hw⟩, HB2.out.grown hg HB2.out.size (fun k e => by cases e; exact Nat.le_refl _)⟩
end Go.Proofs.YtjbepnkchoaipaaGreat
