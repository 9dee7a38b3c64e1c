import Derived.Test.YtjbepnkchoaipaaGreatM17
import Derived.Test.YtjbepnkchoaipaaGreatM18
set_option linter.unusedVariables false
set_option linter.unusedSimpArgs false
/- Contract: write of empty and of head. -/
namespace Go.Proofs.YtjbepnkchoaipaaGreat
open Go.RowKit Go.Lib Go.Maps Go.WideMaps
set_option maxRecDepth 100000
theorem Area.slice_ {w : World} {M : Nat → Prop} {v : Value} {l : List UInt8} (h : Area w M v l) : ∃ A n c, v = .slice A n c := by
  rcases h with ⟨h, _⟩ | h
  · exact own_slice h
  · obtain ⟨A, e⟩ := h.slice_; exact ⟨_, _, _, e⟩
theorem Sl.slice3 {w : World} {M : Nat → Prop} {v : Value} {l : List UInt8} (h : Sl w M v l) : ∃ A n c, v = .slice A n c := by
  obtain ⟨A, c, e⟩ := h.slice_; exact ⟨_, _, _, e⟩
theorem own_sl {w : World} {M : Nat → Prop} {base n : Nat} {v : Value} {l : List UInt8} (h : w.ownsRow base 5 1 v n (u8s l)) (hM : ∀ k, M k → k < base) : Sl w M v l := by
  have hl : l.length = n := by have := h.1; simpa [u8s_len] using this
  obtain ⟨A, c, e, hc, hy⟩ := ownsRow_by h hM
  rcases h.2 with ⟨rfl, rfl⟩ | ⟨g, cap, cur, rfl, hbase, hb, h1, h2, h3, h4⟩
  · exact .inl ⟨none, rfl, List.eq_nil_of_length_eq_zero hl⟩
  · injection e with e1 e2 e3
    subst e1 e3 hl
    exact .inr ⟨g, 0, cap, rfl, hc, (Array.getElem?_eq_some_iff.1 hb).1, hy⟩
theorem Parts.disk {w w' : World} {M : Nat → Prop} {s : J.St} {bn : Nat} {bw : Option Nat} {ch wr b0 b1 b2 b3 d0 d1 d2 d3 d0' d1' d2' d3' : Value} {m : J.Img} (h : Parts w M s bn bw ch wr b0 b1 b2 b3 d0 d1 d2 d3) (hb : Below w.heap.size w w')
    (e0 : Sl w' M d0' m.h0) (e1 : Sl w' M d1' m.h1) (e2 : Area w' M d2' m.a0) (e3 : Area w' M d3' m.a1) (dd : ∀ k, d2'.ownBlock = some k → d3'.ownBlock = some k → ¬ M k) : Parts w' M { s with disk := m } bn bw ch wr b0 b1 b2 b3 d0' d1' d2' d3' := by
  have P := h.below hb
  exact ⟨P.now, P.mbn, P.was, P.chs, P.mch, P.wrs, P.f0, P.f1, P.f2, P.f3, e0, e1, e2, e3, dd⟩
theorem below_drew_l {a b : World} {n : Nat} (h : Below n a.drew b) : Below n a b := ⟨h.os, h.tape, h.output, h.size, h.block⟩
set_option maxHeartbeats 8000000 in
theorem write_empty0 (p : Nat) (M : Nat → Prop) (s : J.St) (A : Option Addr) (n c : Nat) (bs : List UInt8) (w : World) (h : StoreQ w p M s) (hM : ∀ k, M k → k < w.heap.size) (hv : Sl w M (.slice A n c) bs) (hlog : s.logged + n ≤ 100000000) (hwn : s.writes.length + 1 ≤ 100000000) (hn : bs.length = n) :
    Calls Tryz.prog 94 #[.pointer (some ⟨p, 0, none⟩), .agg #[.int .u8 1, .int .i64 0, .slice A n c]] w fun e w' => (∃ r, e = .returned r) ∧ ∃ M', StoreQ w' p M' (J.write s ⟨1, 0, bs⟩) ∧ Step M M' w w' := by
  obtain ⟨bn, bw, ch, wr, b0, b1, b2, b3, d0, d1, d2, d3, h1, h2, h3⟩ := h
  have H1 := Lib.hid h1
  have H2 := Lib.hid h2
  have H3 := Lib.hid h3
  have HV := Lib.hid hv
  have HM := Lib.hid hM
  have hpl : p < w.heap.size := (Array.getElem?_eq_some_iff.1 h1).1
  have hB : Below w.heap.size w (w.alloc (.cells #[.int .u8 1, .int .i64 0, .slice A n c] 111)) := (Below.refl _ _).alloc (Nat.le_refl _) _
  have hr1 := (hB.block p hpl).trans h1
  have hc := fun j => cell_of_row _ p j _ _ _ hr1
  have hf := frozen_row hr1
  have hb0 := fun j => World.cell?_alloc_new w #[.int .u8 1, .int .i64 0, .slice A n c] 111 j
  obtain ⟨vs, g1, g2, g3, g4⟩ := h3.wrs
  have hne : wr.ownBlock ≠ some p := own_ne_row g2 h1 (by decide)
  have hbox : ((w.alloc (.cells #[.int .u8 1, .int .i64 0, .slice A n c] 111))).heap[w.heap.size]? = some (.cells #[.int .u8 1, .int .i64 0, .slice A n c] 111 (0, 0)) := heap_alloc_new w _
  have HNB := Lib.hid (show wr.ownBlock ≠ some w.heap.size from fun e => absurd (g2.lt _ e).2 (Nat.lt_irrefl _))
  have HB := Lib.hid hB
  have HR1 := Lib.hid hr1
  have HG := Lib.hid (own_same g2 (fun k e => hB.block k (g2.lt k e).2))
  have HG1 := Lib.hid g1
  have HG3 := Lib.hid g3
  have HG4 := Lib.hid g4
  have HN := Lib.hid hne
  have HX := Lib.hid hbox
  have HBS := Lib.hid hn
  clear h1 h2 h3 hB hr1 g1 g2 g3 g4 hne hv hbox hM hn
  go_enter Tryz.func94, Tryz.ntmps94
  go_upto_region 1 with fail
  generalize hW : w.alloc (.cells #[.int .u8 1, .int .i64 0, .slice A n c] 111) = W at hc hf hb0 HB HR1 HG HX ⊢
  clear hW
  have hnews : ∀ (W' : World), ∀ j u, ([.int .u8 1, .int .i64 0, .slice A n c] : List Value)[j]? = some u → (W'.alloc (.cells #[.int .u8 1, .int .i64 0, .slice A n c] 111)).cell? ((⟨W'.heap.size, 0, none⟩ : Addr).add j) = some u := fun W' j u hu => by
    have := World.cell?_alloc_new W' #[.int .u8 1, .int .i64 0, .slice A n c] 111 j
    rw [show (⟨W'.heap.size, 0, none⟩ : Addr).add j = ⟨W'.heap.size, j, none⟩ by simp [Addr.add]; intro e; exact e.symm]
    rw [this]; rw [← hu]; simp
  have hone : ∀ u ∈ ([.int .u8 1, .int .i64 0, .slice A n c] : List Value), u.oneCell' = true := by intro u hu; simp at hu; rcases hu with rfl | rfl | rfl <;> rfl
  have HNW := Lib.hid hnews
  have HONE := Lib.hid hone
  have HWN := Lib.hid hwn
  have HPN := Lib.hid (show p ≠ w.heap.size by omega)
  have hwrp : IntKind.i64.wrap ((s.logged : Int) + (n : Int)) = (s.logged : Int) + (n : Int) := IntWalk.i64_in _ (by omega)
  clear hnews hone hwn
  let S2 : World → Prop := fun w' => w'.heap[w.heap.size]? = some (.cells #[.int .u8 1, .int .i64 0, .slice A n c] 111 (0, 0))
  let S1 : World → Prop := fun w' => w'.heap[p]? = some (.cells (stCells s bn bw ch wr b0 b1 b2 b3 d0 d1 d2 d3) 83 (0, 0)) ∧ S2 w'
  have hS1 : ∀ w' : World, S1 w' → (∀ j, w'.cell? ⟨p, j, none⟩ = (stCells s bn bw ch wr b0 b1 b2 b3 d0 d1 d2 d3)[j]?) ∧ (∀ j, w'.cell? ⟨w.heap.size, j, none⟩ = (#[.int .u8 1, .int .i64 0, .slice A n c] : Array Value)[j]?) := fun w' h => ⟨fun j => cell_of_row _ p j _ _ _ h.1, fun j => cell_of_row _ w.heap.size j _ _ _ h.2⟩
  have hS2 : ∀ w' : World, S2 w' → (∀ j, w'.cell? ⟨w.heap.size, j, none⟩ = (#[.int .u8 1, .int .i64 0, .slice A n c] : Array Value)[j]?) := fun w' h => fun j => cell_of_row _ w.heap.size j _ _ _ h
  have HA1 := Lib.hid ((((Below.refl W.heap.size W.drew).alloc (Nat.le_refl _) (.cells #[.int .u8 1, .int .i64 0, .slice A n c] 111)).block p (Array.getElem?_eq_some_iff.1 HR1.out).1).trans HR1.out)
  have HA2 := Lib.hid ((((Below.refl W.heap.size W.drew).alloc (Nat.le_refl _) (.cells #[.int .u8 1, .int .i64 0, .slice A n c] 111)).block w.heap.size (Array.getElem?_eq_some_iff.1 HX.out).1).trans HX.out)
  have HS1 := Lib.hid hS1
  have HS2 := Lib.hid hS2
  clear hS1 hS2 hc hf hb0
  go_cut [] from 4 to 24 (fun wx => WrMid w p M s ⟨1, 0, bs⟩ (.slice A n c) wx)
  case first =>
    refine wp_region_planU 20 [1, 9, 10, 11, 13, 14, 15, 16, 17, 19] [7, 8, 19] [(0, false), (2, false), (3, false), (4, false), (5, false), (6, false), (1, false), (9, false), (10, false), (11, false), (12, false), (13, false), (14, false), (15, false), (16, false), (7, true), (8, true), (17, false), (18, false), (19, true)] S1 S2 (by kernel_rfl) (by kernel_rfl) (fun c a d v w h => by cases d <;> exact h) ⟨HR1.out, HX.out⟩ HX.out ?_
    repeat
      first
        | (refine wpPlanU_read (v := ?_) (by rfl) (by rfl) (by rfl) (fun w' hS => ?_) (fun K hK => ?_)
           rotate_left
           · obtain ⟨hcp, hcb⟩ := HS1.out w' hS
             clear hS
             go_simp
             try with_reducible rfl)
        | (refine wpPlanU_late (v := ?_) (by rfl) (by rfl) (fun w' hS => ?_) (fun K hK => ?_)
           rotate_left
           · have hcb := HS2.out w' hS
             clear hS
             go_simp
             try with_reducible rfl)
      go_simp
      refine hK _ ?_
      clear hK K
    refine wpPlanU_write (by rfl) (fun K hK => ?_)
    go_simp
    refine hK.out _ _ ⟨HA1.out, HA2.out⟩ HA2.out ?_
    clear hK K
    refine wpPlanU_write (by rfl) (fun K hK => ?_)
    refine step_app_wr (by rfl) _ _ (by rfl) wr s.writes.length (wrCells s.writes vs) (by rfl) (HG.out.drew.alloc _) ⟨W.drew.heap.size, 0, none⟩ 1 1 [.int .u8 1, .int .i64 0, .slice A n c] (by rfl) (by rfl) (HNW.out _) HONE.out HWN.out ?_
    intro v1 w1 hown1 hg1 hl1
    obtain ⟨A1, m1, c1, rfl⟩ := own_slice hown1
    have HR2 := Lib.hid (row_keep (W := W.drew) HR1.out hg1 HN.out)
    have HRX := Lib.hid (row_keep (W := W.drew) HX.out hg1 HNB.out)
    have HOWN1 := Lib.hid hown1
    have HGR := Lib.hid hg1
    have HLR := Lib.hid hl1
    clear hown1 hg1 hl1
    go_simp
    refine hK.out _ _ ⟨HR2.out, HRX.out⟩ HRX.out ?_
    clear hK K
    have hc1 := fun j => cell_of_row _ p j _ _ _ HR2.out
    have hf1 := frozen_row HR2.out
    repeat
      first | refine wpPlanU_read (v := ?_) (by rfl) (by rfl) (by rfl) (fun w' hS => ?_) (fun K hK => ?_) | refine wpPlanU_late (v := ?_) (by rfl) (by rfl) (fun w' hS => ?_) (fun K hK => ?_)
      rotate_left
      · clear hS
        go_simp
        try with_reducible rfl
      go_simp
      refine hK _ ?_
      clear hK K
    refine wpPlanU_last (by rfl) (by kernel_rfl) (fun K hK => ?_)
    go_simp
    refine hK.out _ _ (set_far1 HRX.out (by exact HPN.out)) ?_
    clear hK K
    show wpList _ _ _ _ _ _
    go_wp2_with fail
    go_meet
    exact wr_mid H3.out H2.out hpl HM.out HG1.out HG3.out HG4.out HV.out HBS.out HB.out.drew HOWN1.out HGR.out HLR.out HR2.out HRX.out HNB.out
  case rest =>
    obtain ⟨M1, hq, hst, hbox, hnb, hlt⟩ := hcut
    have hv1 := HV.out.step hst
    obtain ⟨bn, bw, ch, wr, b0, b1, b2, b3, d0, d1, d2, d3, q1, q2, q3⟩ := hq
    obtain ⟨A0, n0, c0, rfl⟩ := q3.e0.slice3
    obtain ⟨A1, n1, c1, rfl⟩ := q3.e1.slice3
    obtain ⟨A2, n2, c2, rfl⟩ := q3.e2.slice_
    obtain ⟨A3, n3, c3, rfl⟩ := q3.e3.slice_
    generalize hS0 : ({ s with writes := s.writes ++ [⟨1, 0, bs⟩], logged := s.logged + bs.length } : J.St) = S0 at q1 q3
    have HS0 := Lib.hid hS0
    have Q1 := Lib.hid q1
    have Q2 := Lib.hid q2
    have Q3 := Lib.hid q3
    have HST := Lib.hid hst
    have HBX := Lib.hid hbox
    have HV1 := Lib.hid hv1
    have HLT := Lib.hid hlt
    have hcp := fun j => cell_of_row wc p j _ _ _ q1
    have hcb := fun j => cell_of_row wc w.heap.size j _ _ _ hbox
    clear hS0 q1 q2 q3 hst hbox hv1 hnb hlt
    go_upto_region 4 with fail
    clear hcp hcb
    refine wp_region_plan 10 [(0, false), (1, false), (2, false), (3, false), (4, false), (5, false), (6, false), (7, false), (8, false), (9, true)] (fun w' => w'.heap[p]? = some (.cells (stCells S0 bn bw ch wr b0 b1 b2 b3 (.slice A0 n0 c0) (.slice A1 n1 c1) (.slice A2 n2 c2) (.slice A3 n3 c3)) 83 (0, 0)) ∧ w'.heap[w.heap.size]? = some (.cells #[.int .u8 1, .int .i64 0, .slice A n c] 111 (0, 0))) (by kernel_rfl) (by kernel_rfl) (fun c a d v w h => by cases d <;> exact h) ⟨Q1.out, HBX.out⟩ ?_
    repeat
      refine wpPlan_read (v := ?_) (by rfl) (by rfl) (fun w' hS => ?_) (fun K hK => ?_)
      rotate_left
      · have hcp := fun j => cell_of_row w' p j _ _ _ hS.1
        have hcb := fun j => cell_of_row w' w.heap.size j _ _ _ hS.2
        clear hS
        go_simp
        try with_reducible rfl
      go_simp
      refine hK _ ?_
      clear hK K
    refine wpPlan_write (by rfl) (fun K hK => ?_)
    go_simp
    refine (done_empty0 A0 A1 A2 A3 A n0 n1 n2 n3 n c0 c1 c2 c3 c n wc.drew).mono ?_
    rintro e w5 ⟨rfl, hb5⟩
    have hb5 : Below wc.heap.size wc w5 := below_drew_l hb5
    have HR2 := Lib.hid ((hb5.block p (Array.getElem?_eq_some_iff.1 Q1.out).1).trans Q1.out)
    have HRX := Lib.hid ((hb5.block w.heap.size (Array.getElem?_eq_some_iff.1 HBX.out).1).trans HBX.out)
    have HB5 := Lib.hid hb5
    clear hb5
    refine hK.out _ _ ⟨HR2.out, HRX.out⟩ ?_
    clear hK K
    have hc1 := fun j => cell_of_row _ p j _ _ _ HR2.out
    have hf1 := frozen_row HR2.out
    show wpList _ _ _ _ _ _
    go_wp2_with fail
    go_end0
    have P := Q3.out.below HB5.out
    have hT := Q3.out.disk (m := { S0.disk with a0 := [] }) (d0' := .slice A0 n0 c0) (d1' := .slice A1 n1 c1) (d2' := .slice none 0 0) (d3' := .slice A3 n3 c3) HB5.out (P.e0) (P.e1) (.inr Slc.nil_) (P.e3) (fun k e2 e3 => by cases e2)
    have hg2 := grown_set (grown_set (grown_set (grown_set (World.grownBy.refl w5 (some p)) 15 (.slice A0 n0 c0)) 16 (.slice A1 n1 c1)) 17 (.slice none 0 0)) 18 (.slice A3 n3 c3)
    have hrow := blk_set (blk_set (blk_set (blk_set HR2.out 15 (.slice A0 n0 c0)) 16 (.slice A1 n1 c1)) 17 (.slice none 0 0)) 18 (.slice A3 n3 c3)
    have htk : bs.take n = bs := List.take_of_length_le (by rw [HBS.out]; exact Nat.le_refl _)
    have hw : J.write s ⟨1, 0, bs⟩ = { S0 with disk := { S0.disk with a0 := [] } } := by rw [← HS0.out]; simp [J.write, J.done, J.Img.setArea]
    rw [hw]
    exact ⟨⟨_, rfl⟩, M1, ⟨bn, bw, ch, wr, b0, b1, b2, b3, _, _, _, _, hrow, Q2.out, hT.own HR2.out Q2.out hg2⟩, HST.out.trans (((Step.of_below HB5.out).trans (Step.of_grown hg2 (fun k e _ => by cases e; exact Q2.out))))⟩
set_option maxHeartbeats 8000000 in
theorem write_empty1 (p : Nat) (M : Nat → Prop) (s : J.St) (A : Option Addr) (n c : Nat) (bs : List UInt8) (w : World) (h : StoreQ w p M s) (hM : ∀ k, M k → k < w.heap.size) (hv : Sl w M (.slice A n c) bs) (hlog : s.logged + n ≤ 100000000) (hwn : s.writes.length + 1 ≤ 100000000) (hn : bs.length = n) :
    Calls Tryz.prog 94 #[.pointer (some ⟨p, 0, none⟩), .agg #[.int .u8 1, .int .i64 1, .slice A n c]] w fun e w' => (∃ r, e = .returned r) ∧ ∃ M', StoreQ w' p M' (J.write s ⟨1, 1, bs⟩) ∧ Step M M' w w' := by
  obtain ⟨bn, bw, ch, wr, b0, b1, b2, b3, d0, d1, d2, d3, h1, h2, h3⟩ := h
  have H1 := Lib.hid h1
  have H2 := Lib.hid h2
  have H3 := Lib.hid h3
  have HV := Lib.hid hv
  have HM := Lib.hid hM
  have hpl : p < w.heap.size := (Array.getElem?_eq_some_iff.1 h1).1
  have hB : Below w.heap.size w (w.alloc (.cells #[.int .u8 1, .int .i64 1, .slice A n c] 111)) := (Below.refl _ _).alloc (Nat.le_refl _) _
  have hr1 := (hB.block p hpl).trans h1
  have hc := fun j => cell_of_row _ p j _ _ _ hr1
  have hf := frozen_row hr1
  have hb0 := fun j => World.cell?_alloc_new w #[.int .u8 1, .int .i64 1, .slice A n c] 111 j
  obtain ⟨vs, g1, g2, g3, g4⟩ := h3.wrs
  have hne : wr.ownBlock ≠ some p := own_ne_row g2 h1 (by decide)
  have hbox : ((w.alloc (.cells #[.int .u8 1, .int .i64 1, .slice A n c] 111))).heap[w.heap.size]? = some (.cells #[.int .u8 1, .int .i64 1, .slice A n c] 111 (0, 0)) := heap_alloc_new w _
  have HNB := Lib.hid (show wr.ownBlock ≠ some w.heap.size from fun e => absurd (g2.lt _ e).2 (Nat.lt_irrefl _))
  have HB := Lib.hid hB
  have HR1 := Lib.hid hr1
  have HG := Lib.hid (own_same g2 (fun k e => hB.block k (g2.lt k e).2))
  have HG1 := Lib.hid g1
  have HG3 := Lib.hid g3
  have HG4 := Lib.hid g4
  have HN := Lib.hid hne
  have HX := Lib.hid hbox
  have HBS := Lib.hid hn
  clear h1 h2 h3 hB hr1 g1 g2 g3 g4 hne hv hbox hM hn
  go_enter Tryz.func94, Tryz.ntmps94
  go_upto_region 1 with fail
  generalize hW : w.alloc (.cells #[.int .u8 1, .int .i64 1, .slice A n c] 111) = W at hc hf hb0 HB HR1 HG HX ⊢
  clear hW
  have hnews : ∀ (W' : World), ∀ j u, ([.int .u8 1, .int .i64 1, .slice A n c] : List Value)[j]? = some u → (W'.alloc (.cells #[.int .u8 1, .int .i64 1, .slice A n c] 111)).cell? ((⟨W'.heap.size, 0, none⟩ : Addr).add j) = some u := fun W' j u hu => by
    have := World.cell?_alloc_new W' #[.int .u8 1, .int .i64 1, .slice A n c] 111 j
    rw [show (⟨W'.heap.size, 0, none⟩ : Addr).add j = ⟨W'.heap.size, j, none⟩ by simp [Addr.add]; intro e; exact e.symm]
    rw [this]; rw [← hu]; simp
  have hone : ∀ u ∈ ([.int .u8 1, .int .i64 1, .slice A n c] : List Value), u.oneCell' = true := by intro u hu; simp at hu; rcases hu with rfl | rfl | rfl <;> rfl
  have HNW := Lib.hid hnews
  have HONE := Lib.hid hone
  have HWN := Lib.hid hwn
  have HPN := Lib.hid (show p ≠ w.heap.size by omega)
  have hwrp : IntKind.i64.wrap ((s.logged : Int) + (n : Int)) = (s.logged : Int) + (n : Int) := IntWalk.i64_in _ (by omega)
  clear hnews hone hwn
  let S2 : World → Prop := fun w' => w'.heap[w.heap.size]? = some (.cells #[.int .u8 1, .int .i64 1, .slice A n c] 111 (0, 0))
  let S1 : World → Prop := fun w' => w'.heap[p]? = some (.cells (stCells s bn bw ch wr b0 b1 b2 b3 d0 d1 d2 d3) 83 (0, 0)) ∧ S2 w'
  have hS1 : ∀ w' : World, S1 w' → (∀ j, w'.cell? ⟨p, j, none⟩ = (stCells s bn bw ch wr b0 b1 b2 b3 d0 d1 d2 d3)[j]?) ∧ (∀ j, w'.cell? ⟨w.heap.size, j, none⟩ = (#[.int .u8 1, .int .i64 1, .slice A n c] : Array Value)[j]?) := fun w' h => ⟨fun j => cell_of_row _ p j _ _ _ h.1, fun j => cell_of_row _ w.heap.size j _ _ _ h.2⟩
  have hS2 : ∀ w' : World, S2 w' → (∀ j, w'.cell? ⟨w.heap.size, j, none⟩ = (#[.int .u8 1, .int .i64 1, .slice A n c] : Array Value)[j]?) := fun w' h => fun j => cell_of_row _ w.heap.size j _ _ _ h
  have HA1 := Lib.hid ((((Below.refl W.heap.size W.drew).alloc (Nat.le_refl _) (.cells #[.int .u8 1, .int .i64 1, .slice A n c] 111)).block p (Array.getElem?_eq_some_iff.1 HR1.out).1).trans HR1.out)
  have HA2 := Lib.hid ((((Below.refl W.heap.size W.drew).alloc (Nat.le_refl _) (.cells #[.int .u8 1, .int .i64 1, .slice A n c] 111)).block w.heap.size (Array.getElem?_eq_some_iff.1 HX.out).1).trans HX.out)
  have HS1 := Lib.hid hS1
  have HS2 := Lib.hid hS2
  clear hS1 hS2 hc hf hb0
  go_cut [] from 4 to 24 (fun wx => WrMid w p M s ⟨1, 1, bs⟩ (.slice A n c) wx)
  case first =>
    refine wp_region_planU 20 [1, 9, 10, 11, 13, 14, 15, 16, 17, 19] [7, 8, 19] [(0, false), (2, false), (3, false), (4, false), (5, false), (6, false), (1, false), (9, false), (10, false), (11, false), (12, false), (13, false), (14, false), (15, false), (16, false), (7, true), (8, true), (17, false), (18, false), (19, true)] S1 S2 (by kernel_rfl) (by kernel_rfl) (fun c a d v w h => by cases d <;> exact h) ⟨HR1.out, HX.out⟩ HX.out ?_
    repeat
      first
        | (refine wpPlanU_read (v := ?_) (by rfl) (by rfl) (by rfl) (fun w' hS => ?_) (fun K hK => ?_)
           rotate_left
           · obtain ⟨hcp, hcb⟩ := HS1.out w' hS
             clear hS
             go_simp
             try with_reducible rfl)
        | (refine wpPlanU_late (v := ?_) (by rfl) (by rfl) (fun w' hS => ?_) (fun K hK => ?_)
           rotate_left
           · have hcb := HS2.out w' hS
             clear hS
             go_simp
             try with_reducible rfl)
      go_simp
      refine hK _ ?_
      clear hK K
    refine wpPlanU_write (by rfl) (fun K hK => ?_)
    go_simp
    refine hK.out _ _ ⟨HA1.out, HA2.out⟩ HA2.out ?_
    clear hK K
    refine wpPlanU_write (by rfl) (fun K hK => ?_)
    refine step_app_wr (by rfl) _ _ (by rfl) wr s.writes.length (wrCells s.writes vs) (by rfl) (HG.out.drew.alloc _) ⟨W.drew.heap.size, 0, none⟩ 1 1 [.int .u8 1, .int .i64 1, .slice A n c] (by rfl) (by rfl) (HNW.out _) HONE.out HWN.out ?_
    intro v1 w1 hown1 hg1 hl1
    obtain ⟨A1, m1, c1, rfl⟩ := own_slice hown1
    have HR2 := Lib.hid (row_keep (W := W.drew) HR1.out hg1 HN.out)
    have HRX := Lib.hid (row_keep (W := W.drew) HX.out hg1 HNB.out)
    have HOWN1 := Lib.hid hown1
    have HGR := Lib.hid hg1
    have HLR := Lib.hid hl1
    clear hown1 hg1 hl1
    go_simp
    refine hK.out _ _ ⟨HR2.out, HRX.out⟩ HRX.out ?_
    clear hK K
    have hc1 := fun j => cell_of_row _ p j _ _ _ HR2.out
    have hf1 := frozen_row HR2.out
    repeat
      first | refine wpPlanU_read (v := ?_) (by rfl) (by rfl) (by rfl) (fun w' hS => ?_) (fun K hK => ?_) | refine wpPlanU_late (v := ?_) (by rfl) (by rfl) (fun w' hS => ?_) (fun K hK => ?_)
      rotate_left
      · clear hS
        go_simp
        try with_reducible rfl
      go_simp
      refine hK _ ?_
      clear hK K
    refine wpPlanU_last (by rfl) (by kernel_rfl) (fun K hK => ?_)
    go_simp
    refine hK.out _ _ (set_far1 HRX.out (by exact HPN.out)) ?_
    clear hK K
    show wpList _ _ _ _ _ _
    go_wp2_with fail
    go_meet
    exact wr_mid H3.out H2.out hpl HM.out HG1.out HG3.out HG4.out HV.out HBS.out HB.out.drew HOWN1.out HGR.out HLR.out HR2.out HRX.out HNB.out
  case rest =>
    obtain ⟨M1, hq, hst, hbox, hnb, hlt⟩ := hcut
    have hv1 := HV.out.step hst
    obtain ⟨bn, bw, ch, wr, b0, b1, b2, b3, d0, d1, d2, d3, q1, q2, q3⟩ := hq
    obtain ⟨A0, n0, c0, rfl⟩ := q3.e0.slice3
    obtain ⟨A1, n1, c1, rfl⟩ := q3.e1.slice3
    obtain ⟨A2, n2, c2, rfl⟩ := q3.e2.slice_
    obtain ⟨A3, n3, c3, rfl⟩ := q3.e3.slice_
    generalize hS0 : ({ s with writes := s.writes ++ [⟨1, 1, bs⟩], logged := s.logged + bs.length } : J.St) = S0 at q1 q3
    have HS0 := Lib.hid hS0
    have Q1 := Lib.hid q1
    have Q2 := Lib.hid q2
    have Q3 := Lib.hid q3
    have HST := Lib.hid hst
    have HBX := Lib.hid hbox
    have HV1 := Lib.hid hv1
    have HLT := Lib.hid hlt
    have hcp := fun j => cell_of_row wc p j _ _ _ q1
    have hcb := fun j => cell_of_row wc w.heap.size j _ _ _ hbox
    clear hS0 q1 q2 q3 hst hbox hv1 hnb hlt
    go_upto_region 4 with fail
    clear hcp hcb
    refine wp_region_plan 10 [(0, false), (1, false), (2, false), (3, false), (4, false), (5, false), (6, false), (7, false), (8, false), (9, true)] (fun w' => w'.heap[p]? = some (.cells (stCells S0 bn bw ch wr b0 b1 b2 b3 (.slice A0 n0 c0) (.slice A1 n1 c1) (.slice A2 n2 c2) (.slice A3 n3 c3)) 83 (0, 0)) ∧ w'.heap[w.heap.size]? = some (.cells #[.int .u8 1, .int .i64 1, .slice A n c] 111 (0, 0))) (by kernel_rfl) (by kernel_rfl) (fun c a d v w h => by cases d <;> exact h) ⟨Q1.out, HBX.out⟩ ?_
    repeat
      refine wpPlan_read (v := ?_) (by rfl) (by rfl) (fun w' hS => ?_) (fun K hK => ?_)
      rotate_left
      · have hcp := fun j => cell_of_row w' p j _ _ _ hS.1
        have hcb := fun j => cell_of_row w' w.heap.size j _ _ _ hS.2
        clear hS
        go_simp
        try with_reducible rfl
      go_simp
      refine hK _ ?_
      clear hK K
    refine wpPlan_write (by rfl) (fun K hK => ?_)
    go_simp
    refine (done_empty1 A0 A1 A2 A3 A n0 n1 n2 n3 n c0 c1 c2 c3 c n wc.drew).mono ?_
    rintro e w5 ⟨rfl, hb5⟩
    have hb5 : Below wc.heap.size wc w5 := below_drew_l hb5
    have HR2 := Lib.hid ((hb5.block p (Array.getElem?_eq_some_iff.1 Q1.out).1).trans Q1.out)
    have HRX := Lib.hid ((hb5.block w.heap.size (Array.getElem?_eq_some_iff.1 HBX.out).1).trans HBX.out)
    have HB5 := Lib.hid hb5
    clear hb5
    refine hK.out _ _ ⟨HR2.out, HRX.out⟩ ?_
    clear hK K
    have hc1 := fun j => cell_of_row _ p j _ _ _ HR2.out
    have hf1 := frozen_row HR2.out
    show wpList _ _ _ _ _ _
    go_wp2_with fail
    go_end0
    have P := Q3.out.below HB5.out
    have hT := Q3.out.disk (m := { S0.disk with a1 := [] }) (d0' := .slice A0 n0 c0) (d1' := .slice A1 n1 c1) (d2' := .slice A2 n2 c2) (d3' := .slice none 0 0) HB5.out (P.e0) (P.e1) (P.e2) (.inr Slc.nil_) (fun k e2 e3 => by cases e3)
    have hg2 := grown_set (grown_set (grown_set (grown_set (World.grownBy.refl w5 (some p)) 15 (.slice A0 n0 c0)) 16 (.slice A1 n1 c1)) 17 (.slice A2 n2 c2)) 18 (.slice none 0 0)
    have hrow := blk_set (blk_set (blk_set (blk_set HR2.out 15 (.slice A0 n0 c0)) 16 (.slice A1 n1 c1)) 17 (.slice A2 n2 c2)) 18 (.slice none 0 0)
    have htk : bs.take n = bs := List.take_of_length_le (by rw [HBS.out]; exact Nat.le_refl _)
    have hw : J.write s ⟨1, 1, bs⟩ = { S0 with disk := { S0.disk with a1 := [] } } := by rw [← HS0.out]; simp [J.write, J.done, J.Img.setArea]
    rw [hw]
    exact ⟨⟨_, rfl⟩, M1, ⟨bn, bw, ch, wr, b0, b1, b2, b3, _, _, _, _, hrow, Q2.out, hT.own HR2.out Q2.out hg2⟩, HST.out.trans (((Step.of_below HB5.out).trans (Step.of_grown hg2 (fun k e _ => by cases e; exact Q2.out))))⟩
set_option maxHeartbeats 8000000 in
theorem write_head0 (p : Nat) (M : Nat → Prop) (s : J.St) (A : Option Addr) (n c : Nat) (bs : List UInt8) (w : World) (h : StoreQ w p M s) (hM : ∀ k, M k → k < w.heap.size) (hv : Sl w M (.slice A n c) bs) (hlog : s.logged + n ≤ 100000000) (hwn : s.writes.length + 1 ≤ 100000000) (hn : bs.length = n) (h0 : 0 < n) (hsz : s.disk.h0.length ≤ 40000000) (hn4 : n ≤ 40000000) :
    Calls Tryz.prog 94 #[.pointer (some ⟨p, 0, none⟩), .agg #[.int .u8 2, .int .i64 0, .slice A n c]] w fun e w' => (∃ r, e = .returned r) ∧ ∃ M', StoreQ w' p M' (J.write s ⟨2, 0, bs⟩) ∧ Step M M' w w' := by
  obtain ⟨bn, bw, ch, wr, b0, b1, b2, b3, d0, d1, d2, d3, h1, h2, h3⟩ := h
  have H1 := Lib.hid h1
  have H2 := Lib.hid h2
  have H3 := Lib.hid h3
  have HV := Lib.hid hv
  have HM := Lib.hid hM
  have hpl : p < w.heap.size := (Array.getElem?_eq_some_iff.1 h1).1
  have hB : Below w.heap.size w (w.alloc (.cells #[.int .u8 2, .int .i64 0, .slice A n c] 111)) := (Below.refl _ _).alloc (Nat.le_refl _) _
  have hr1 := (hB.block p hpl).trans h1
  have hc := fun j => cell_of_row _ p j _ _ _ hr1
  have hf := frozen_row hr1
  have hb0 := fun j => World.cell?_alloc_new w #[.int .u8 2, .int .i64 0, .slice A n c] 111 j
  obtain ⟨vs, g1, g2, g3, g4⟩ := h3.wrs
  have hne : wr.ownBlock ≠ some p := own_ne_row g2 h1 (by decide)
  have hbox : ((w.alloc (.cells #[.int .u8 2, .int .i64 0, .slice A n c] 111))).heap[w.heap.size]? = some (.cells #[.int .u8 2, .int .i64 0, .slice A n c] 111 (0, 0)) := heap_alloc_new w _
  have HNB := Lib.hid (show wr.ownBlock ≠ some w.heap.size from fun e => absurd (g2.lt _ e).2 (Nat.lt_irrefl _))
  have HB := Lib.hid hB
  have HR1 := Lib.hid hr1
  have HG := Lib.hid (own_same g2 (fun k e => hB.block k (g2.lt k e).2))
  have HG1 := Lib.hid g1
  have HG3 := Lib.hid g3
  have HG4 := Lib.hid g4
  have HN := Lib.hid hne
  have HX := Lib.hid hbox
  have HBS := Lib.hid hn
  clear h1 h2 h3 hB hr1 g1 g2 g3 g4 hne hv hbox hM hn
  go_enter Tryz.func94, Tryz.ntmps94
  go_upto_region 1 with fail
  generalize hW : w.alloc (.cells #[.int .u8 2, .int .i64 0, .slice A n c] 111) = W at hc hf hb0 HB HR1 HG HX ⊢
  clear hW
  have hnews : ∀ (W' : World), ∀ j u, ([.int .u8 2, .int .i64 0, .slice A n c] : List Value)[j]? = some u → (W'.alloc (.cells #[.int .u8 2, .int .i64 0, .slice A n c] 111)).cell? ((⟨W'.heap.size, 0, none⟩ : Addr).add j) = some u := fun W' j u hu => by
    have := World.cell?_alloc_new W' #[.int .u8 2, .int .i64 0, .slice A n c] 111 j
    rw [show (⟨W'.heap.size, 0, none⟩ : Addr).add j = ⟨W'.heap.size, j, none⟩ by simp [Addr.add]; intro e; exact e.symm]
    rw [this]; rw [← hu]; simp
  have hone : ∀ u ∈ ([.int .u8 2, .int .i64 0, .slice A n c] : List Value), u.oneCell' = true := by intro u hu; simp at hu; rcases hu with rfl | rfl | rfl <;> rfl
  have HNW := Lib.hid hnews
  have HONE := Lib.hid hone
  have HWN := Lib.hid hwn
  have HPN := Lib.hid (show p ≠ w.heap.size by omega)
  have hwrp : IntKind.i64.wrap ((s.logged : Int) + (n : Int)) = (s.logged : Int) + (n : Int) := IntWalk.i64_in _ (by omega)
  clear hnews hone hwn
  let S2 : World → Prop := fun w' => w'.heap[w.heap.size]? = some (.cells #[.int .u8 2, .int .i64 0, .slice A n c] 111 (0, 0))
  let S1 : World → Prop := fun w' => w'.heap[p]? = some (.cells (stCells s bn bw ch wr b0 b1 b2 b3 d0 d1 d2 d3) 83 (0, 0)) ∧ S2 w'
  have hS1 : ∀ w' : World, S1 w' → (∀ j, w'.cell? ⟨p, j, none⟩ = (stCells s bn bw ch wr b0 b1 b2 b3 d0 d1 d2 d3)[j]?) ∧ (∀ j, w'.cell? ⟨w.heap.size, j, none⟩ = (#[.int .u8 2, .int .i64 0, .slice A n c] : Array Value)[j]?) := fun w' h => ⟨fun j => cell_of_row _ p j _ _ _ h.1, fun j => cell_of_row _ w.heap.size j _ _ _ h.2⟩
  have hS2 : ∀ w' : World, S2 w' → (∀ j, w'.cell? ⟨w.heap.size, j, none⟩ = (#[.int .u8 2, .int .i64 0, .slice A n c] : Array Value)[j]?) := fun w' h => fun j => cell_of_row _ w.heap.size j _ _ _ h
  have HA1 := Lib.hid ((((Below.refl W.heap.size W.drew).alloc (Nat.le_refl _) (.cells #[.int .u8 2, .int .i64 0, .slice A n c] 111)).block p (Array.getElem?_eq_some_iff.1 HR1.out).1).trans HR1.out)
  have HA2 := Lib.hid ((((Below.refl W.heap.size W.drew).alloc (Nat.le_refl _) (.cells #[.int .u8 2, .int .i64 0, .slice A n c] 111)).block w.heap.size (Array.getElem?_eq_some_iff.1 HX.out).1).trans HX.out)
  have HS1 := Lib.hid hS1
  have HS2 := Lib.hid hS2
  clear hS1 hS2 hc hf hb0
  go_cut [] from 4 to 24 (fun wx => WrMid w p M s ⟨2, 0, bs⟩ (.slice A n c) wx)
  case first =>
    refine wp_region_planU 20 [1, 9, 10, 11, 13, 14, 15, 16, 17, 19] [7, 8, 19] [(0, false), (2, false), (3, false), (4, false), (5, false), (6, false), (1, false), (9, false), (10, false), (11, false), (12, false), (13, false), (14, false), (15, false), (16, false), (7, true), (8, true), (17, false), (18, false), (19, true)] S1 S2 (by kernel_rfl) (by kernel_rfl) (fun c a d v w h => by cases d <;> exact h) ⟨HR1.out, HX.out⟩ HX.out ?_
    repeat
      first
        | (refine wpPlanU_read (v := ?_) (by rfl) (by rfl) (by rfl) (fun w' hS => ?_) (fun K hK => ?_)
           rotate_left
           · obtain ⟨hcp, hcb⟩ := HS1.out w' hS
             clear hS
             go_simp
             try with_reducible rfl)
        | (refine wpPlanU_late (v := ?_) (by rfl) (by rfl) (fun w' hS => ?_) (fun K hK => ?_)
           rotate_left
           · have hcb := HS2.out w' hS
             clear hS
             go_simp
             try with_reducible rfl)
      go_simp
      refine hK _ ?_
      clear hK K
    refine wpPlanU_write (by rfl) (fun K hK => ?_)
    go_simp
    refine hK.out _ _ ⟨HA1.out, HA2.out⟩ HA2.out ?_
    clear hK K
    refine wpPlanU_write (by rfl) (fun K hK => ?_)
    refine step_app_wr (by rfl) _ _ (by rfl) wr s.writes.length (wrCells s.writes vs) (by rfl) (HG.out.drew.alloc _) ⟨W.drew.heap.size, 0, none⟩ 1 1 [.int .u8 2, .int .i64 0, .slice A n c] (by rfl) (by rfl) (HNW.out _) HONE.out HWN.out ?_
    intro v1 w1 hown1 hg1 hl1
    obtain ⟨A1, m1, c1, rfl⟩ := own_slice hown1
    have HR2 := Lib.hid (row_keep (W := W.drew) HR1.out hg1 HN.out)
    have HRX := Lib.hid (row_keep (W := W.drew) HX.out hg1 HNB.out)
    have HOWN1 := Lib.hid hown1
    have HGR := Lib.hid hg1
    have HLR := Lib.hid hl1
    clear hown1 hg1 hl1
    go_simp
    refine hK.out _ _ ⟨HR2.out, HRX.out⟩ HRX.out ?_
    clear hK K
    have hc1 := fun j => cell_of_row _ p j _ _ _ HR2.out
    have hf1 := frozen_row HR2.out
    repeat
      first | refine wpPlanU_read (v := ?_) (by rfl) (by rfl) (by rfl) (fun w' hS => ?_) (fun K hK => ?_) | refine wpPlanU_late (v := ?_) (by rfl) (by rfl) (fun w' hS => ?_) (fun K hK => ?_)
      rotate_left
      · clear hS
        go_simp
        try with_reducible rfl
      go_simp
      refine hK _ ?_
      clear hK K
    refine wpPlanU_last (by rfl) (by kernel_rfl) (fun K hK => ?_)
    go_simp
    refine hK.out _ _ (set_far1 HRX.out (by exact HPN.out)) ?_
    clear hK K
    show wpList _ _ _ _ _ _
    go_wp2_with fail
    go_meet
    exact wr_mid H3.out H2.out hpl HM.out HG1.out HG3.out HG4.out HV.out HBS.out HB.out.drew HOWN1.out HGR.out HLR.out HR2.out HRX.out HNB.out
  case rest =>
    obtain ⟨M1, hq, hst, hbox, hnb, hlt⟩ := hcut
    have hv1 := HV.out.step hst
    obtain ⟨bn, bw, ch, wr, b0, b1, b2, b3, d0, d1, d2, d3, q1, q2, q3⟩ := hq
    obtain ⟨A0, n0, c0, rfl⟩ := q3.e0.slice3
    obtain ⟨A1, n1, c1, rfl⟩ := q3.e1.slice3
    obtain ⟨A2, n2, c2, rfl⟩ := q3.e2.slice_
    obtain ⟨A3, n3, c3, rfl⟩ := q3.e3.slice_
    generalize hS0 : ({ s with writes := s.writes ++ [⟨2, 0, bs⟩], logged := s.logged + bs.length } : J.St) = S0 at q1 q3
    have HS0 := Lib.hid hS0
    have HSZ := Lib.hid (show S0.disk.h0.length ≤ 40000000 by rw [← hS0]; exact hsz)
    clear hsz
    have Q1 := Lib.hid q1
    have Q2 := Lib.hid q2
    have Q3 := Lib.hid q3
    have HST := Lib.hid hst
    have HBX := Lib.hid hbox
    have HV1 := Lib.hid hv1
    have HLT := Lib.hid hlt
    have hcp := fun j => cell_of_row wc p j _ _ _ q1
    have hcb := fun j => cell_of_row wc w.heap.size j _ _ _ hbox
    clear hS0 q1 q2 q3 hst hbox hv1 hnb hlt
    obtain ⟨A', c', eA, hc', hy⟩ := HV1.out.by
    injection eA with e1 e2 e3
    subst e1 e3
    obtain ⟨ba, oa, rfl, _⟩ := hy.2 (by have := HBS.out; omega)
    have HY4 := Lib.hid (show By wc.drew M1 (some ⟨ba, oa, none⟩) n bs from by have h5 : By wc M1 (some ⟨ba, oa, none⟩) bs.length bs := hy; rw [HBS.out] at h5; exact h5)
    have HC4 := Lib.hid (show n ≤ c by have := HBS.out; omega)
    obtain ⟨A', c', eA, hch, hyh⟩ := Q3.out.e0.by
    injection eA with e1 e2h e3
    subst e1 e3
    have HY2 := Lib.hid (show By wc.drew M1 A0 n0 S0.disk.h0 from by have h5 : By wc M1 A0 S0.disk.h0.length S0.disk.h0 := hyh; rw [← e2h] at h5; exact h5)
    have HC2 := Lib.hid (show n0 ≤ c0 by omega)
    have HZ2 := Lib.hid (show n0 ≤ 40000000 by have := HSZ.out; omega)
    clear hy hyh e2 e2h hc' hch
    go_upto_region 4 with fail
    clear hcp hcb
    refine wp_region_plan 10 [(0, false), (1, false), (2, false), (3, false), (4, false), (5, false), (6, false), (7, false), (8, false), (9, true)] (fun w' => w'.heap[p]? = some (.cells (stCells S0 bn bw ch wr b0 b1 b2 b3 (.slice A0 n0 c0) (.slice A1 n1 c1) (.slice A2 n2 c2) (.slice A3 n3 c3)) 83 (0, 0)) ∧ w'.heap[w.heap.size]? = some (.cells #[.int .u8 2, .int .i64 0, .slice (some ⟨ba, oa, none⟩) n c] 111 (0, 0))) (by kernel_rfl) (by kernel_rfl) (fun c a d v w h => by cases d <;> exact h) ⟨Q1.out, HBX.out⟩ ?_
    repeat
      refine wpPlan_read (v := ?_) (by rfl) (by rfl) (fun w' hS => ?_) (fun K hK => ?_)
      rotate_left
      · have hcp := fun j => cell_of_row w' p j _ _ _ hS.1
        have hcb := fun j => cell_of_row w' w.heap.size j _ _ _ hS.2
        clear hS
        go_simp
        try with_reducible rfl
      go_simp
      refine hK _ ?_
      clear hK K
    refine wpPlan_write (by rfl) (fun K hK => ?_)
    go_simp
    refine (done_head0 A0 A1 A2 A3 n0 n1 n2 n3 n c0 c1 c2 c3 c ba oa n wc.drew M1 M1 S0.disk.h0 bs HY2.out HC2.out HY4.out (Nat.le_refl _) HC4.out HZ2.out hn4).mono ?_
    rintro e w5 ⟨A', n', c', rfl, hown5, hb5⟩
    have hb5 : Below wc.heap.size wc w5 := below_drew_l hb5
    have hnew : Sl w5 M1 (.slice A' n' c') (bs.take n ++ S0.disk.h0.drop n) := own_sl (show w5.ownsRow wc.heap.size _ _ _ _ _ from hown5) HLT.out
    rw [List.take_of_length_le (by rw [HBS.out]; exact Nat.le_refl _)] at hnew
    have HNEW := Lib.hid hnew
    clear hown5 hnew
    have HR2 := Lib.hid ((hb5.block p (Array.getElem?_eq_some_iff.1 Q1.out).1).trans Q1.out)
    have HRX := Lib.hid ((hb5.block w.heap.size (Array.getElem?_eq_some_iff.1 HBX.out).1).trans HBX.out)
    have HB5 := Lib.hid hb5
    clear hb5
    refine hK.out _ _ ⟨HR2.out, HRX.out⟩ ?_
    clear hK K
    have hc1 := fun j => cell_of_row _ p j _ _ _ HR2.out
    have hf1 := frozen_row HR2.out
    show wpList _ _ _ _ _ _
    go_wp2_with fail
    go_end0
    have P := Q3.out.below HB5.out
    have hT := Q3.out.disk (m := { S0.disk with h0 := bs ++ S0.disk.h0.drop n }) (d0' := .slice A' n' c') (d1' := .slice A1 n1 c1) (d2' := .slice A2 n2 c2) (d3' := .slice A3 n3 c3) HB5.out (HNEW.out) (P.e1) (P.e2) (P.e3) P.dd
    have hg2 := grown_set (grown_set (grown_set (grown_set (World.grownBy.refl w5 (some p)) 15 (.slice A' n' c')) 16 (.slice A1 n1 c1)) 17 (.slice A2 n2 c2)) 18 (.slice A3 n3 c3)
    have hrow := blk_set (blk_set (blk_set (blk_set HR2.out 15 (.slice A' n' c')) 16 (.slice A1 n1 c1)) 17 (.slice A2 n2 c2)) 18 (.slice A3 n3 c3)
    have htk : bs.take n = bs := List.take_of_length_le (by rw [HBS.out]; exact Nat.le_refl _)
    have hw : J.write s ⟨2, 0, bs⟩ = { S0 with disk := { S0.disk with h0 := bs ++ S0.disk.h0.drop n } } := by rw [← HS0.out]; simp [J.write, J.done, J.Img.setHead, J.Img.head, HBS.out, htk]
    rw [hw]
    exact ⟨⟨_, rfl⟩, M1, ⟨bn, bw, ch, wr, b0, b1, b2, b3, _, _, _, _, hrow, Q2.out, hT.own HR2.out Q2.out hg2⟩, HST.out.trans (((Step.of_below HB5.out).trans (Step.of_grown hg2 (fun k e _ => by cases e; exact Q2.out))))⟩
set_option maxHeartbeats 8000000 in
theorem write_head1 (p : Nat) (M : Nat → Prop) (s : J.St) (A : Option Addr) (n c : Nat) (bs : List UInt8) (w : World) (h : StoreQ w p M s) (hM : ∀ k, M k → k < w.heap.size) (hv : Sl w M (.slice A n c) bs) (hlog : s.logged + n ≤ 100000000) (hwn : s.writes.length + 1 ≤ 100000000) (hn : bs.length = n) (h0 : 0 < n) (hsz : s.disk.h1.length ≤ 40000000) (hn4 : n ≤ 40000000) :
    Calls Tryz.prog 94 #[.pointer (some ⟨p, 0, none⟩), .agg #[.int .u8 2, .int .i64 1, .slice A n c]] w fun e w' => (∃ r, e = .returned r) ∧ ∃ M', StoreQ w' p M' (J.write s ⟨2, 1, bs⟩) ∧ Step M M' w w' := by
  obtain ⟨bn, bw, ch, wr, b0, b1, b2, b3, d0, d1, d2, d3, h1, h2, h3⟩ := h
  have H1 := Lib.hid h1
  have H2 := Lib.hid h2
  have H3 := Lib.hid h3
  have HV := Lib.hid hv
  have HM := Lib.hid hM
  have hpl : p < w.heap.size := (Array.getElem?_eq_some_iff.1 h1).1
  have hB : Below w.heap.size w (w.alloc (.cells #[.int .u8 2, .int .i64 1, .slice A n c] 111)) := (Below.refl _ _).alloc (Nat.le_refl _) _
  have hr1 := (hB.block p hpl).trans h1
  have hc := fun j => cell_of_row _ p j _ _ _ hr1
  have hf := frozen_row hr1
  have hb0 := fun j => World.cell?_alloc_new w #[.int .u8 2, .int .i64 1, .slice A n c] 111 j
  obtain ⟨vs, g1, g2, g3, g4⟩ := h3.wrs
  have hne : wr.ownBlock ≠ some p := own_ne_row g2 h1 (by decide)
  have hbox : ((w.alloc (.cells #[.int .u8 2, .int .i64 1, .slice A n c] 111))).heap[w.heap.size]? = some (.cells #[.int .u8 2, .int .i64 1, .slice A n c] 111 (0, 0)) := heap_alloc_new w _
  have HNB := Lib.hid (show wr.ownBlock ≠ some w.heap.size from fun e => absurd (g2.lt _ e).2 (Nat.lt_irrefl _))
  have HB := Lib.hid hB
  have HR1 := Lib.hid hr1
  have HG := Lib.hid (own_same g2 (fun k e => hB.block k (g2.lt k e).2))
  have HG1 := Lib.hid g1
  have HG3 := Lib.hid g3
  have HG4 := Lib.hid g4
  have HN := Lib.hid hne
  have HX := Lib.hid hbox
  have HBS := Lib.hid hn
  clear h1 h2 h3 hB hr1 g1 g2 g3 g4 hne hv hbox hM hn
  go_enter Tryz.func94, Tryz.ntmps94
  go_upto_region 1 with fail
  generalize hW : w.alloc (.cells #[.int .u8 2, .int .i64 1, .slice A n c] 111) = W at hc hf hb0 HB HR1 HG HX ⊢
  clear hW
  have hnews : ∀ (W' : World), ∀ j u, ([.int .u8 2, .int .i64 1, .slice A n c] : List Value)[j]? = some u → (W'.alloc (.cells #[.int .u8 2, .int .i64 1, .slice A n c] 111)).cell? ((⟨W'.heap.size, 0, none⟩ : Addr).add j) = some u := fun W' j u hu => by
    have := World.cell?_alloc_new W' #[.int .u8 2, .int .i64 1, .slice A n c] 111 j
    rw [show (⟨W'.heap.size, 0, none⟩ : Addr).add j = ⟨W'.heap.size, j, none⟩ by simp [Addr.add]; intro e; exact e.symm]
    rw [this]; rw [← hu]; simp
  have hone : ∀ u ∈ ([.int .u8 2, .int .i64 1, .slice A n c] : List Value), u.oneCell' = true := by intro u hu; simp at hu; rcases hu with rfl | rfl | rfl <;> rfl
  have HNW := Lib.hid hnews
  have HONE := Lib.hid hone
  have HWN := Lib.hid hwn
  have HPN := Lib.hid (show p ≠ w.heap.size by omega)
  have hwrp : IntKind.i64.wrap ((s.logged : Int) + (n : Int)) = (s.logged : Int) + (n : Int) := IntWalk.i64_in _ (by omega)
  clear hnews hone hwn
  let S2 : World → Prop := fun w' => w'.heap[w.heap.size]? = some (.cells #[.int .u8 2, .int .i64 1, .slice A n c] 111 (0, 0))
  let S1 : World → Prop := fun w' => w'.heap[p]? = some (.cells (stCells s bn bw ch wr b0 b1 b2 b3 d0 d1 d2 d3) 83 (0, 0)) ∧ S2 w'
  have hS1 : ∀ w' : World, S1 w' → (∀ j, w'.cell? ⟨p, j, none⟩ = (stCells s bn bw ch wr b0 b1 b2 b3 d0 d1 d2 d3)[j]?) ∧ (∀ j, w'.cell? ⟨w.heap.size, j, none⟩ = (#[.int .u8 2, .int .i64 1, .slice A n c] : Array Value)[j]?) := fun w' h => ⟨fun j => cell_of_row _ p j _ _ _ h.1, fun j => cell_of_row _ w.heap.size j _ _ _ h.2⟩
  have hS2 : ∀ w' : World, S2 w' → (∀ j, w'.cell? ⟨w.heap.size, j, none⟩ = (#[.int .u8 2, .int .i64 1, .slice A n c] : Array Value)[j]?) := fun w' h => fun j => cell_of_row _ w.heap.size j _ _ _ h
  have HA1 := Lib.hid ((((Below.refl W.heap.size W.drew).alloc (Nat.le_refl _) (.cells #[.int .u8 2, .int .i64 1, .slice A n c] 111)).block p (Array.getElem?_eq_some_iff.1 HR1.out).1).trans HR1.out)
  have HA2 := Lib.hid ((((Below.refl W.heap.size W.drew).alloc (Nat.le_refl _) (.cells #[.int .u8 2, .int .i64 1, .slice A n c] 111)).block w.heap.size (Array.getElem?_eq_some_iff.1 HX.out).1).trans HX.out)
  have HS1 := Lib.hid hS1
  have HS2 := Lib.hid hS2
  clear hS1 hS2 hc hf hb0
  go_cut [] from 4 to 24 (fun wx => WrMid w p M s ⟨2, 1, bs⟩ (.slice A n c) wx)
  case first =>
    refine wp_region_planU 20 [1, 9, 10, 11, 13, 14, 15, 16, 17, 19] [7, 8, 19] [(0, false), (2, false), (3, false), (4, false), (5, false), (6, false), (1, false), (9, false), (10, false), (11, false), (12, false), (13, false), (14, false), (15, false), (16, false), (7, true), (8, true), (17, false), (18, false), (19, true)] S1 S2 (by kernel_rfl) (by kernel_rfl) (fun c a d v w h => by cases d <;> exact h) ⟨HR1.out, HX.out⟩ HX.out ?_
    repeat
      first
        | (refine wpPlanU_read (v := ?_) (by rfl) (by rfl) (by rfl) (fun w' hS => ?_) (fun K hK => ?_)
           rotate_left
           · obtain ⟨hcp, hcb⟩ := HS1.out w' hS
             clear hS
             go_simp
             try with_reducible rfl)
        | (refine wpPlanU_late (v := ?_) (by rfl) (by rfl) (fun w' hS => ?_) (fun K hK => ?_)
           rotate_left
           · have hcb := HS2.out w' hS
             clear hS
             go_simp
             try with_reducible rfl)
      go_simp
      refine hK _ ?_
      clear hK K
    refine wpPlanU_write (by rfl) (fun K hK => ?_)
    go_simp
    refine hK.out _ _ ⟨HA1.out, HA2.out⟩ HA2.out ?_
    clear hK K
    refine wpPlanU_write (by rfl) (fun K hK => ?_)
    refine step_app_wr (by rfl) _ _ (by rfl) wr s.writes.length (wrCells s.writes vs) (by rfl) (HG.out.drew.alloc _) ⟨W.drew.heap.size, 0, none⟩ 1 1 [.int .u8 2, .int .i64 1, .slice A n c] (by rfl) (by rfl) (HNW.out _) HONE.out HWN.out ?_
    intro v1 w1 hown1 hg1 hl1
    obtain ⟨A1, m1, c1, rfl⟩ := own_slice hown1
    have HR2 := Lib.hid (row_keep (W := W.drew) HR1.out hg1 HN.out)
    have HRX := Lib.hid (row_keep (W := W.drew) HX.out hg1 HNB.out)
    have HOWN1 := Lib.hid hown1
    have HGR := Lib.hid hg1
    have HLR := Lib.hid hl1
    clear hown1 hg1 hl1
    go_simp
    refine hK.out _ _ ⟨HR2.out, HRX.out⟩ HRX.out ?_
    clear hK K
    have hc1 := fun j => cell_of_row _ p j _ _ _ HR2.out
    have hf1 := frozen_row HR2.out
    repeat
      first | refine wpPlanU_read (v := ?_) (by rfl) (by rfl) (by rfl) (fun w' hS => ?_) (fun K hK => ?_) | refine wpPlanU_late (v := ?_) (by rfl) (by rfl) (fun w' hS => ?_) (fun K hK => ?_)
      rotate_left
      · clear hS
        go_simp
        try with_reducible rfl
      go_simp
      refine hK _ ?_
      clear hK K
    refine wpPlanU_last (by rfl) (by kernel_rfl) (fun K hK => ?_)
    go_simp
    refine hK.out _ _ (set_far1 HRX.out (by exact HPN.out)) ?_
    clear hK K
    show wpList _ _ _ _ _ _
    go_wp2_with fail
    go_meet
    exact wr_mid H3.out H2.out hpl HM.out HG1.out HG3.out HG4.out HV.out HBS.out HB.out.drew HOWN1.out HGR.out HLR.out HR2.out HRX.out HNB.out
  case rest =>
    obtain ⟨M1, hq, hst, hbox, hnb, hlt⟩ := hcut
    have hv1 := HV.out.step hst
    obtain ⟨bn, bw, ch, wr, b0, b1, b2, b3, d0, d1, d2, d3, q1, q2, q3⟩ := hq
    obtain ⟨A0, n0, c0, rfl⟩ := q3.e0.slice3
    obtain ⟨A1, n1, c1, rfl⟩ := q3.e1.slice3
    obtain ⟨A2, n2, c2, rfl⟩ := q3.e2.slice_
    obtain ⟨A3, n3, c3, rfl⟩ := q3.e3.slice_
    generalize hS0 : ({ s with writes := s.writes ++ [⟨2, 1, bs⟩], logged := s.logged + bs.length } : J.St) = S0 at q1 q3
    have HS0 := Lib.hid hS0
    have HSZ := Lib.hid (show S0.disk.h1.length ≤ 40000000 by rw [← hS0]; exact hsz)
    clear hsz
    have Q1 := Lib.hid q1
    have Q2 := Lib.hid q2
    have Q3 := Lib.hid q3
    have HST := Lib.hid hst
    have HBX := Lib.hid hbox
    have HV1 := Lib.hid hv1
    have HLT := Lib.hid hlt
    have hcp := fun j => cell_of_row wc p j _ _ _ q1
    have hcb := fun j => cell_of_row wc w.heap.size j _ _ _ hbox
    clear hS0 q1 q2 q3 hst hbox hv1 hnb hlt
    obtain ⟨A', c', eA, hc', hy⟩ := HV1.out.by
    injection eA with e1 e2 e3
    subst e1 e3
    obtain ⟨ba, oa, rfl, _⟩ := hy.2 (by have := HBS.out; omega)
    have HY4 := Lib.hid (show By wc.drew M1 (some ⟨ba, oa, none⟩) n bs from by have h5 : By wc M1 (some ⟨ba, oa, none⟩) bs.length bs := hy; rw [HBS.out] at h5; exact h5)
    have HC4 := Lib.hid (show n ≤ c by have := HBS.out; omega)
    obtain ⟨A', c', eA, hch, hyh⟩ := Q3.out.e1.by
    injection eA with e1 e2h e3
    subst e1 e3
    have HY2 := Lib.hid (show By wc.drew M1 A1 n1 S0.disk.h1 from by have h5 : By wc M1 A1 S0.disk.h1.length S0.disk.h1 := hyh; rw [← e2h] at h5; exact h5)
    have HC2 := Lib.hid (show n1 ≤ c1 by omega)
    have HZ2 := Lib.hid (show n1 ≤ 40000000 by have := HSZ.out; omega)
    clear hy hyh e2 e2h hc' hch
    go_upto_region 4 with fail
    clear hcp hcb
    refine wp_region_plan 10 [(0, false), (1, false), (2, false), (3, false), (4, false), (5, false), (6, false), (7, false), (8, false), (9, true)] (fun w' => w'.heap[p]? = some (.cells (stCells S0 bn bw ch wr b0 b1 b2 b3 (.slice A0 n0 c0) (.slice A1 n1 c1) (.slice A2 n2 c2) (.slice A3 n3 c3)) 83 (0, 0)) ∧ w'.heap[w.heap.size]? = some (.cells #[.int .u8 2, .int .i64 1, .slice (some ⟨ba, oa, none⟩) n c] 111 (0, 0))) (by kernel_rfl) (by kernel_rfl) (fun c a d v w h => by cases d <;> exact h) ⟨Q1.out, HBX.out⟩ ?_
    repeat
      refine wpPlan_read (v := ?_) (by rfl) (by rfl) (fun w' hS => ?_) (fun K hK => ?_)
      rotate_left
      · have hcp := fun j => cell_of_row w' p j _ _ _ hS.1
        have hcb := fun j => cell_of_row w' w.heap.size j _ _ _ hS.2
        clear hS
        go_simp
        try with_reducible rfl
      go_simp
      refine hK _ ?_
      clear hK K
    refine wpPlan_write (by rfl) (fun K hK => ?_)
    go_simp
    refine (done_head1 A0 A1 A2 A3 n0 n1 n2 n3 n c0 c1 c2 c3 c ba oa n wc.drew M1 M1 S0.disk.h1 bs HY2.out HC2.out HY4.out (Nat.le_refl _) HC4.out HZ2.out hn4).mono ?_
    rintro e w5 ⟨A', n', c', rfl, hown5, hb5⟩
    have hb5 : Below wc.heap.size wc w5 := below_drew_l hb5
    have hnew : Sl w5 M1 (.slice A' n' c') (bs.take n ++ S0.disk.h1.drop n) := own_sl (show w5.ownsRow wc.heap.size _ _ _ _ _ from hown5) HLT.out
    rw [List.take_of_length_le (by rw [HBS.out]; exact Nat.le_refl _)] at hnew
    have HNEW := Lib.hid hnew
    clear hown5 hnew
    have HR2 := Lib.hid ((hb5.block p (Array.getElem?_eq_some_iff.1 Q1.out).1).trans Q1.out)
    have HRX := Lib.hid ((hb5.block w.heap.size (Array.getElem?_eq_some_iff.1 HBX.out).1).trans HBX.out)
    have HB5 := Lib.hid hb5
    clear hb5
    refine hK.out _ _ ⟨HR2.out, HRX.out⟩ ?_
    clear hK K
    have hc1 := fun j => cell_of_row _ p j _ _ _ HR2.out
    have hf1 := frozen_row HR2.out
    show wpList _ _ _ _ _ _
    go_wp2_with fail
    go_end0
    have P := Q3.out.below HB5.out
    have hT := Q3.out.disk (m := { S0.disk with h1 := bs ++ S0.disk.h1.drop n }) (d0' := .slice A0 n0 c0) (d1' := .slice A' n' c') (d2' := .slice A2 n2 c2) (d3' := .slice A3 n3 c3) HB5.out (P.e0) (HNEW.out) (P.e2) (P.e3) P.dd
    have hg2 := grown_set (grown_set (grown_set (grown_set (World.grownBy.refl w5 (some p)) 15 (.slice A0 n0 c0)) 16 (.slice A' n' c')) 17 (.slice A2 n2 c2)) 18 (.slice A3 n3 c3)
    have hrow := blk_set (blk_set (blk_set (blk_set HR2.out 15 (.slice A0 n0 c0)) 16 (.slice A' n' c')) 17 (.slice A2 n2 c2)) 18 (.slice A3 n3 c3)
    have htk : bs.take n = bs := List.take_of_length_le (by rw [HBS.out]; exact Nat.le_refl _)
    have hw : J.write s ⟨2, 1, bs⟩ = { S0 with disk := { S0.disk with h1 := bs ++ S0.disk.h1.drop n } } := by rw [← HS0.out]; simp [J.write, J.done, J.Img.setHead, J.Img.head, HBS.out, htk]
    rw [hw]
    exact ⟨⟨_, rfl⟩, M1, ⟨bn, bw, ch, wr, b0, b1, b2, b3, _, _, _, _, hrow, Q2.out, hT.own HR2.out Q2.out hg2⟩, HST.out.trans (((Step.of_below HB5.out).trans (Step.of_grown hg2 (fun k e _ => by cases e; exact Q2.out))))⟩
end Go.Proofs.YtjbepnkchoaipaaGreat
