import Derived.Test.YtjbepnkchoaipaaGreatM13
import Derived.Test.YtjbepnkchoaipaaGreatM12
import Derived.Deep.CutRange
set_option linter.unusedVariables false
set_option linter.unusedSimpArgs false
/- Contract: write. -/
namespace Go.Proofs.YtjbepnkchoaipaaGreat
open Go.RowKit Go.Lib Go.Maps Go.WideMaps
set_option maxRecDepth 100000
theorem step_app_wr {ops : Array Oper} {o : Oper} {a : Act} {w : World} {K : Act → World → Prop} {Q : Exit → Act → World → Prop} {E : Prop} (hgd : o.guard = none) (s x : Operand) (ho : o.op = .call { callee := .builtin .append, args := #[s, x], argTypes := #[81, 81] })
    (v : Value) (n : Nat) (xs : List Value) (hs : a.eval s = v) (hown : w.ownsRow 0 111 3 v n xs) (ad : Addr) (m c : Nat) (news : List Value) (hx : a.eval x = .slice (some ad) m c) (hl : news.length = m * 3) (hnews : ∀ j u, news[j]? = some u → w.cell? (ad.add j) = some u) (h1 : ∀ u ∈ news, u.oneCell' = true)
    (hb : n + m ≤ 100000000)
    (h : ∀ v' w', w'.ownsRow 0 111 3 v' (n + m) (xs ++ news) → w.grownBy w' v.ownBlock → (v'.ownBlock = v.ownBlock ∨ v'.ownBlock = some w.heap.size) → K (a.put o.dst v') w') :
    if Region.wanted o (yielded ops a.tmps) = true then Oper.wp Tryz.prog o a w K Q else E := by
  obtain ⟨i0, hi, hz0, hz1, hz2⟩ := info_parts Tryz.infoW
  have hw : Region.wanted o (yielded ops a.tmps) = true := by simp [Region.wanted, hgd]
  rw [if_pos hw]
  obtain ⟨v', w', hrun, h2, h3, h4, h5⟩ := run_append_own_at (P := Tryz.prog) w 0 81 o.type 111 i0 _ 3 40 Tryz.underlying81 hi hz0 hz1 hz2 rfl (by decide) v n xs hown ad m c news hl hnews h1 (by unfold maxLen; omega) (by omega) (Nat.zero_le _)
  unfold Oper.wp execOp
  simp only [ho, resolve, invoke, builtin, Sem.run_bind, Sem.run_pure, Result.andThen_ok, List.map_toArray, List.map_cons, List.map_nil, hs, hx, hrun]
  exact h v' w' h2 h3 h5
theorem set_far1 {w : World} {g g' i : Nat} {u : Value} {o : Obj} (h : w.heap[g]? = some o) (hne : g' ≠ g) : (w.setCell ⟨g', i, none⟩ u).heap[g]? = some o := by
  simp [World.setCell, Array.getElem?_modify, h, hne]
theorem step_app_area {ops : Array Oper} {o : Oper} {a : Act} {w : World} {K : Act → World → Prop} {Q : Exit → Act → World → Prop} {E : Prop} (hgd : o.guard = none) (s x : Operand) (ho : o.op = .call { callee := .builtin .append, args := #[s, x], argTypes := #[37, 37] })
    (M : Nat → Prop) (v : Value) (l : List UInt8) (hs : a.eval s = v) (ha : Area w M v l) (M2 : Nat → Prop) (A : Option Addr) (m c : Nat) (x' : List UInt8) (hx : a.eval x = .slice A m c) (hy : By w M2 A m x') (h0 : 0 < m) (hb : l.length + m ≤ 100000000)
    (h : ∀ v' w', Appended w w' M v v' (l ++ x') → K (a.put o.dst v') w') :
    if Region.wanted o (yielded ops a.tmps) = true then Oper.wp Tryz.prog o a w K Q else E := by
  have hw : Region.wanted o (yielded ops a.tmps) = true := by simp [Region.wanted, hgd]
  rw [if_pos hw]
  obtain ⟨v', w', hrun, h2⟩ := run_append_area w M v l ha M2 A m c x' hy h0 hb o.type
  unfold Oper.wp execOp
  simp only [ho, resolve, invoke, builtin, Sem.run_bind, Sem.run_pure, Result.andThen_ok, List.map_toArray, List.map_cons, List.map_nil, hs, hx, hrun]
  exact h v' w' h2
/-- A box of a write is no area's row. -/
theorem area_ne_box {w : World} {M : Nat → Prop} {v : Value} {l : List UInt8} {g : Nat} {C : Array Value} (ha : Area w M v l) (hg : w.heap[g]? = some (.cells C 111 (0, 0))) : ¬ (M g ∧ v.ownBlock = some g) := by
  rintro ⟨mk, e1⟩
  rcases ha with ⟨h1, _⟩ | ⟨rfl, _⟩ | ⟨b, o, rfl, _, hb, hy, _⟩
  · exact own_ne_row h1 hg (by decide) e1
  · cases e1
  · simp [Value.ownBlock] at e1; subst e1; exact hy mk
/-- What holds behind the first statement of write. -/
def WrMid (w : World) (p : Nat) (M : Nat → Prop) (s : J.St) (c : J.Wr) (v : Value) (wx : World) : Prop :=
  ∃ M', StoreQ wx p M' { s with writes := s.writes ++ [c], logged := s.logged + c.bs.length } ∧ Step M M' w wx ∧ wx.heap[w.heap.size]? = some (.cells #[.int .u8 (c.kind : Nat), .int .i64 (c.idx : Nat), v] 111 (0, 0)) ∧ ¬ M' w.heap.size ∧ ∀ k, M' k → k < wx.heap.size
theorem wr_mid {w W w1 : World} {p : Nat} {M : Nat → Prop} {s : J.St} {kd i n c : Nat} {A : Option Addr} {bs : List UInt8} {bn : Nat} {bw : Option Nat} {ch wr b0 b1 b2 b3 d0 d1 d2 d3 v1 : Value} {vs : List Value} {o : Obj}
    (h3 : Parts w M s bn bw ch wr b0 b1 b2 b3 d0 d1 d2 d3) (hm : M p) (hpl : p < w.heap.size) (hM : ∀ k, M k → k < w.heap.size) (g1 : vs.length = s.writes.length) (g3 : ∀ k, wr.ownBlock = some k → M k) (g4 : ∀ i (h : i < s.writes.length) (h' : i < vs.length), Sl w M vs[i] s.writes[i].bs)
    (hv : Sl w M (.slice A n c) bs) (hn : bs.length = n) (hb : Below w.heap.size w W) (hown : (w1).ownsRow 0 111 3 v1 (s.writes.length + 1) (wrCells s.writes vs ++ [.int .u8 (kd : Nat), .int .i64 (i : Nat), .slice A n c])) (hg : (W.alloc o).grownBy w1 wr.ownBlock) (hl : v1.ownBlock = wr.ownBlock ∨ v1.ownBlock = some (W.alloc o).heap.size)
    (hr : w1.heap[p]? = some (.cells (stCells s bn bw ch wr b0 b1 b2 b3 d0 d1 d2 d3) 83 (0, 0))) (hx : w1.heap[w.heap.size]? = some (.cells #[.int .u8 kd, .int .i64 i, .slice A n c] 111 (0, 0))) (hnb : wr.ownBlock ≠ some w.heap.size) :
    WrMid w p M s ⟨kd, i, bs⟩ (.slice A n c) ((w1.setCell ⟨p, 19, none⟩ v1).setCell ⟨p, 20, none⟩ (.int .i64 ((s.logged : Int) + (n : Int)))) := by
  have hbA : Below w.heap.size w (W.alloc o) := hb.alloc hb.size o
  have hP := WrRow.push (M := M) (c := ⟨kd, i, bs⟩) g1 g4 g3 hbA hown hg hl hv
  have hT := h3.wrTurn (n := s.logged + bs.length) hP.2 (fun k => .inl) (fun k hk hne => (hg.block k (Nat.lt_of_lt_of_le hk hbA.size) (fun e => hne e.symm)).trans (hbA.block k hk)) hP.1
  have hg2 := grown_set (grown_set (World.grownBy.refl w1 (some p)) 19 v1) 20 (.int .i64 ((s.logged : Int) + (n : Int)))
  have hrow := blk_set (blk_set hr 19 v1) 20 (.int .i64 ((s.logged : Int) + (n : Int)))
  have hcells : ((stCells s bn bw ch wr b0 b1 b2 b3 d0 d1 d2 d3).setIfInBounds 19 v1).setIfInBounds 20 (.int .i64 ((s.logged : Int) + (n : Int))) = stCells { s with writes := s.writes ++ [⟨kd, i, bs⟩], logged := s.logged + bs.length } bn bw ch v1 b0 b1 b2 b3 d0 d1 d2 d3 := by
    rw [← hn, ← Int.natCast_add]; rfl
  rw [hcells] at hrow
  have hm' : M p ∨ v1.ownBlock = some p := .inl hm
  have hlt : w.heap.size < (W.alloc o).heap.size := by have := hb.size; simp; omega
  refine ⟨fun k => M k ∨ v1.ownBlock = some k, ⟨bn, bw, ch, v1, b0, b1, b2, b3, d0, d1, d2, d3, hrow, hm', hT.own hr hm' hg2⟩, hP.2.trans (Step.of_grown hg2 (fun k e _ => by cases e; exact hm')), ?_, ?_, ?_⟩
  · exact set_far1 (set_far1 hx (by omega)) (by omega)
  · rintro (e | e)
    · have := hM _ e; omega
    · rcases hl with e' | e'
      · exact hnb (e' ▸ e)
      · rw [e'] at e; injection e with e; omega
  · rintro k (e | e)
    · exact Nat.lt_of_lt_of_le (hM k e) (Nat.le_trans hP.2.size hg2.size)
    · exact Nat.lt_of_lt_of_le (hown.lt k e).2 hg2.size
set_option maxHeartbeats 8000000 in
theorem write_grow0 (p : Nat) (M : Nat → Prop) (s : J.St) (A : Option Addr) (n c : Nat) (bs : List UInt8) (w : World) (h : StoreQ w p M s) (hM : ∀ k, M k → k < w.heap.size) (hv : Sl w M (.slice A n c) bs) (hlog : s.logged + n ≤ 100000000) (hwn : s.writes.length + 1 ≤ 100000000) (hn : bs.length = n)
    (h0 : 0 < n) (hsz : s.disk.a0.length + n ≤ 100000000) :
    Calls Tryz.prog 94 #[.pointer (some ⟨p, 0, none⟩), .agg #[.int .u8 0, .int .i64 0, .slice A n c]] w fun e w' => (∃ r, e = .returned r) ∧ ∃ M', StoreQ w' p M' (J.write s ⟨0, 0, bs⟩) ∧ Step M M' w w' := by
  obtain ⟨bn, bw, ch, wr, b0, b1, b2, b3, d0, d1, d2, d3, h1, h2, h3⟩ := h
  have H1 := Lib.hid h1
  have H2 := Lib.hid h2
  have H3 := Lib.hid h3
  have HV := Lib.hid hv
  have HM := Lib.hid hM
  have hpl : p < w.heap.size := (Array.getElem?_eq_some_iff.1 h1).1
  have hB : Below w.heap.size w (w.alloc (.cells #[.int .u8 0, .int .i64 0, .slice A n c] 111)) := (Below.refl _ _).alloc (Nat.le_refl _) _
  have hr1 := (hB.block p hpl).trans h1
  have hc := fun j => cell_of_row _ p j _ _ _ hr1
  have hf := frozen_row hr1
  have hb0 := fun j => World.cell?_alloc_new w #[.int .u8 0, .int .i64 0, .slice A n c] 111 j
  obtain ⟨vs, g1, g2, g3, g4⟩ := h3.wrs
  have hne : wr.ownBlock ≠ some p := own_ne_row g2 h1 (by decide)
  have hbox : ((w.alloc (.cells #[.int .u8 0, .int .i64 0, .slice A n c] 111))).heap[w.heap.size]? = some (.cells #[.int .u8 0, .int .i64 0, .slice A n c] 111 (0, 0)) := heap_alloc_new w _
  have HNB := Lib.hid (show wr.ownBlock ≠ some w.heap.size from fun e => absurd (g2.lt _ e).2 (Nat.lt_irrefl _))
  have HB := Lib.hid hB
  have HR1 := Lib.hid hr1
  have HG := Lib.hid (own_same g2 (fun k e => hB.block k (g2.lt k e).2))
  have HG1 := Lib.hid g1
  have HG3 := Lib.hid g3
  have HG4 := Lib.hid g4
  have HN := Lib.hid hne
  have HX := Lib.hid hbox
  have HBS := Lib.hid hn
  clear h1 h2 h3 hB hr1 g1 g2 g3 g4 hne hv hbox hM hn
  go_enter Tryz.func94, Tryz.ntmps94
  go_upto_region 1 with fail
  generalize hW : w.alloc (.cells #[.int .u8 0, .int .i64 0, .slice A n c] 111) = W at hc hf hb0 HB HR1 HG HX ⊢
  clear hW
  have hnews : ∀ (W' : World), ∀ j u, ([.int .u8 0, .int .i64 0, .slice A n c] : List Value)[j]? = some u → (W'.alloc (.cells #[.int .u8 0, .int .i64 0, .slice A n c] 111)).cell? ((⟨W'.heap.size, 0, none⟩ : Addr).add j) = some u := fun W' j u hu => by
    have := World.cell?_alloc_new W' #[.int .u8 0, .int .i64 0, .slice A n c] 111 j
    rw [show (⟨W'.heap.size, 0, none⟩ : Addr).add j = ⟨W'.heap.size, j, none⟩ by simp [Addr.add]; intro e; exact e.symm]
    rw [this]; rw [← hu]; simp
  have hone : ∀ u ∈ ([.int .u8 0, .int .i64 0, .slice A n c] : List Value), u.oneCell' = true := by intro u hu; simp at hu; rcases hu with rfl | rfl | rfl <;> rfl
  have HNW := Lib.hid hnews
  have HONE := Lib.hid hone
  have HWN := Lib.hid hwn
  have HPN := Lib.hid (show p ≠ w.heap.size by omega)
  have hwrp : IntKind.i64.wrap ((s.logged : Int) + (n : Int)) = (s.logged : Int) + (n : Int) := IntWalk.i64_in _ (by omega)
  clear hnews hone hwn
  let S2 : World → Prop := fun w' => w'.heap[w.heap.size]? = some (.cells #[.int .u8 0, .int .i64 0, .slice A n c] 111 (0, 0))
  let S1 : World → Prop := fun w' => w'.heap[p]? = some (.cells (stCells s bn bw ch wr b0 b1 b2 b3 d0 d1 d2 d3) 83 (0, 0)) ∧ S2 w'
  have hS1 : ∀ w' : World, S1 w' → (∀ j, w'.cell? ⟨p, j, none⟩ = (stCells s bn bw ch wr b0 b1 b2 b3 d0 d1 d2 d3)[j]?) ∧ (∀ j, w'.cell? ⟨w.heap.size, j, none⟩ = (#[.int .u8 0, .int .i64 0, .slice A n c] : Array Value)[j]?) := fun w' h => ⟨fun j => cell_of_row _ p j _ _ _ h.1, fun j => cell_of_row _ w.heap.size j _ _ _ h.2⟩
  have hS2 : ∀ w' : World, S2 w' → (∀ j, w'.cell? ⟨w.heap.size, j, none⟩ = (#[.int .u8 0, .int .i64 0, .slice A n c] : Array Value)[j]?) := fun w' h => fun j => cell_of_row _ w.heap.size j _ _ _ h
  have HA1 := Lib.hid ((((Below.refl W.heap.size W.drew).alloc (Nat.le_refl _) (.cells #[.int .u8 0, .int .i64 0, .slice A n c] 111)).block p (Array.getElem?_eq_some_iff.1 HR1.out).1).trans HR1.out)
  have HA2 := Lib.hid ((((Below.refl W.heap.size W.drew).alloc (Nat.le_refl _) (.cells #[.int .u8 0, .int .i64 0, .slice A n c] 111)).block w.heap.size (Array.getElem?_eq_some_iff.1 HX.out).1).trans HX.out)
  have HS1 := Lib.hid hS1
  have HS2 := Lib.hid hS2
  clear hS1 hS2 hc hf hb0
  go_cut [] from 4 to 24 (fun wx => WrMid w p M s ⟨0, 0, bs⟩ (.slice A n c) wx)
  case first =>
    refine wp_region_planU 20 [1, 9, 10, 11, 13, 14, 15, 16, 17, 19] [7, 8, 19] [(0, false), (2, false), (3, false), (4, false), (5, false), (6, false), (1, false), (9, false), (10, false), (11, false), (12, false), (13, false), (14, false), (15, false), (16, false), (7, true), (8, true), (17, false), (18, false), (19, true)] S1 S2 (by kernel_rfl) (by kernel_rfl) (fun c a d v w h => by cases d <;> exact h) ⟨HR1.out, HX.out⟩ HX.out ?_
    repeat
      first
        | (refine wpPlanU_read (v := ?_) (by rfl) (by rfl) (by rfl) (fun w' hS => ?_) (fun K hK => ?_)
           rotate_left
           · obtain ⟨hcp, hcb⟩ := HS1.out w' hS
             clear hS
             go_simp
             try with_reducible rfl)
        | (refine wpPlanU_late (v := ?_) (by rfl) (by rfl) (fun w' hS => ?_) (fun K hK => ?_)
           rotate_left
           · have hcb := HS2.out w' hS
             clear hS
             go_simp
             try with_reducible rfl)
      go_simp
      refine hK _ ?_
      clear hK K
    refine wpPlanU_write (by rfl) (fun K hK => ?_)
    go_simp
    refine hK.out _ _ ⟨HA1.out, HA2.out⟩ HA2.out ?_
    clear hK K
    refine wpPlanU_write (by rfl) (fun K hK => ?_)
    refine step_app_wr (by rfl) _ _ (by rfl) wr s.writes.length (wrCells s.writes vs) (by rfl) (HG.out.drew.alloc _) ⟨W.drew.heap.size, 0, none⟩ 1 1 [.int .u8 0, .int .i64 0, .slice A n c] (by rfl) (by rfl) (HNW.out _) HONE.out HWN.out ?_
    intro v1 w1 hown1 hg1 hl1
    obtain ⟨A1, m1, c1, rfl⟩ := own_slice hown1
    have HR2 := Lib.hid (row_keep (W := W.drew) HR1.out hg1 HN.out)
    have HRX := Lib.hid (row_keep (W := W.drew) HX.out hg1 HNB.out)
    have HOWN1 := Lib.hid hown1
    have HGR := Lib.hid hg1
    have HLR := Lib.hid hl1
    clear hown1 hg1 hl1
    go_simp
    refine hK.out _ _ ⟨HR2.out, HRX.out⟩ HRX.out ?_
    clear hK K
    have hc1 := fun j => cell_of_row _ p j _ _ _ HR2.out
    have hf1 := frozen_row HR2.out
    repeat
      first | refine wpPlanU_read (v := ?_) (by rfl) (by rfl) (by rfl) (fun w' hS => ?_) (fun K hK => ?_) | refine wpPlanU_late (v := ?_) (by rfl) (by rfl) (fun w' hS => ?_) (fun K hK => ?_)
      rotate_left
      · clear hS
        go_simp
        try with_reducible rfl
      go_simp
      refine hK _ ?_
      clear hK K
    refine wpPlanU_last (by rfl) (by kernel_rfl) (fun K hK => ?_)
    go_simp
    refine hK.out _ _ (set_far1 HRX.out (by exact HPN.out)) ?_
    clear hK K
    show wpList _ _ _ _ _ _
    go_wp2_with fail
    go_meet
    exact wr_mid H3.out H2.out hpl HM.out HG1.out HG3.out HG4.out HV.out HBS.out HB.out.drew HOWN1.out HGR.out HLR.out HR2.out HRX.out HNB.out
  case rest =>
    obtain ⟨M1, hq, hst, hbox, hnb, hlt⟩ := hcut
    have hv1 := HV.out.step hst
    obtain ⟨bn, bw, ch, wr, b0, b1, b2, b3, d0, d1, d2, d3, q1, q2, q3⟩ := hq
    generalize hS0 : ({ s with writes := s.writes ++ [⟨0, 0, bs⟩], logged := s.logged + bs.length } : J.St) = S0 at q1 q3
    have HS0 := Lib.hid hS0
    have HSZ := Lib.hid (show S0.disk.a0.length + n ≤ 100000000 by rw [← hS0]; exact hsz)
    have Q1 := Lib.hid q1
    have Q2 := Lib.hid q2
    have Q3 := Lib.hid q3
    have HST := Lib.hid hst
    have HBX := Lib.hid hbox
    have HV1 := Lib.hid hv1
    have hcp := fun j => cell_of_row wc p j _ _ _ q1
    have hcb := fun j => cell_of_row wc w.heap.size j _ _ _ hbox
    clear hS0 q1 q2 q3 hst hbox hv1 hnb hlt hsz
    go_upto_region 3 with fail
    obtain ⟨A', c', eA, hc', hy⟩ := HV1.out.by
    injection eA with e1 e2 e3
    subst e1 e3
    have HY := Lib.hid hy
    clear hy hcp hcb e2
    refine wp_region_plan 17 [(0, false), (1, false), (2, false), (3, false), (4, false), (5, false), (6, false), (7, false), (8, false), (9, false), (10, false), (11, false), (12, false), (14, false), (15, false), (16, false), (13, true)] (fun w' => w'.heap[p]? = some (.cells (stCells S0 bn bw ch wr b0 b1 b2 b3 d0 d1 d2 d3) 83 (0, 0)) ∧ w'.heap[w.heap.size]? = some (.cells #[.int .u8 0, .int .i64 0, .slice A n c] 111 (0, 0))) (by kernel_rfl) (by kernel_rfl) (fun c a d v w h => by cases d <;> exact h) ⟨Q1.out, HBX.out⟩ ?_
    repeat
      refine wpPlan_read (v := ?_) (by rfl) (by rfl) (fun w' hS => ?_) (fun K hK => ?_)
      rotate_left
      · have hcp := fun j => cell_of_row w' p j _ _ _ hS.1
        have hcb := fun j => cell_of_row w' w.heap.size j _ _ _ hS.2
        clear hS
        go_simp
        try with_reducible rfl
      go_simp
      refine hK _ ?_
      clear hK K
    refine wpPlan_write (by rfl) (fun K hK => ?_)
    refine step_app_area (by rfl) _ _ (by rfl) M1 d2 S0.disk.a0 (by rfl) (show Area wc.drew M1 d2 S0.disk.a0 from Q3.out.e2) M1 A n c bs (by rfl) (by rw [← HBS.out]; exact HY.out.drew) h0 (by exact HSZ.out) ?_
    intro v1 w1 happ
    obtain ⟨A1, m1, c1, rfl⟩ := own_slice happ.own
    have happ : Appended wc w1 M1 d2 (.slice A1 m1 c1) (S0.disk.a0 ++ bs) := ⟨happ.own, happ.os, happ.tape, happ.output, happ.size, happ.block, happ.row⟩
    have HR2 := Lib.hid ((happ.block p (Array.getElem?_eq_some_iff.1 Q1.out).1 (fun e => Q3.out.ne Q1.out Q2.out (by simp [e.2]))).trans Q1.out)
    have HRX := Lib.hid ((happ.block w.heap.size (Array.getElem?_eq_some_iff.1 HBX.out).1 (area_ne_box Q3.out.e2 HBX.out)).trans HBX.out)
    have HAP := Lib.hid happ
    clear happ
    go_simp
    refine hK.out _ _ ⟨HR2.out, HRX.out⟩ ?_
    clear hK K
    have hc1 := fun j => cell_of_row _ p j _ _ _ HR2.out
    have hf1 := frozen_row HR2.out
    show wpList _ _ _ _ _ _
    go_wp2_with fail
    refine bodyPost_ret (results_none rfl _ _ _) rfl ?_
    have hT := Q3.out.a0Turn HAP.out
    have hg2 := grown_set (World.grownBy.refl w1 (some p)) 17 (.slice A1 m1 c1)
    have hrow := blk_set HR2.out 17 (.slice A1 m1 c1)
    have hm' : M1 p ∨ (Value.slice A1 m1 c1).ownBlock = some p := .inl Q2.out
    have hw : J.write s ⟨0, 0, bs⟩ = { S0 with disk := { S0.disk with a0 := S0.disk.a0 ++ bs } } := by rw [← HS0.out]; simp [J.write, J.done, J.Img.setArea, J.Img.area]
    rw [hw]
    exact ⟨⟨_, rfl⟩, _, ⟨bn, bw, ch, wr, b0, b1, b2, b3, d0, d1, _, d3, hrow, hm', hT.1.own HR2.out hm' hg2⟩, HST.out.trans (hT.2.trans (Step.of_grown hg2 (fun k e _ => by cases e; exact hm')))⟩
set_option maxHeartbeats 8000000 in
theorem write_grow1 (p : Nat) (M : Nat → Prop) (s : J.St) (A : Option Addr) (n c : Nat) (bs : List UInt8) (w : World) (h : StoreQ w p M s) (hM : ∀ k, M k → k < w.heap.size) (hv : Sl w M (.slice A n c) bs) (hlog : s.logged + n ≤ 100000000) (hwn : s.writes.length + 1 ≤ 100000000) (hn : bs.length = n)
    (h0 : 0 < n) (hsz : s.disk.a1.length + n ≤ 100000000) :
    Calls Tryz.prog 94 #[.pointer (some ⟨p, 0, none⟩), .agg #[.int .u8 0, .int .i64 1, .slice A n c]] w fun e w' => (∃ r, e = .returned r) ∧ ∃ M', StoreQ w' p M' (J.write s ⟨0, 1, bs⟩) ∧ Step M M' w w' := by
  obtain ⟨bn, bw, ch, wr, b0, b1, b2, b3, d0, d1, d2, d3, h1, h2, h3⟩ := h
  have H1 := Lib.hid h1
  have H2 := Lib.hid h2
  have H3 := Lib.hid h3
  have HV := Lib.hid hv
  have HM := Lib.hid hM
  have hpl : p < w.heap.size := (Array.getElem?_eq_some_iff.1 h1).1
  have hB : Below w.heap.size w (w.alloc (.cells #[.int .u8 0, .int .i64 1, .slice A n c] 111)) := (Below.refl _ _).alloc (Nat.le_refl _) _
  have hr1 := (hB.block p hpl).trans h1
  have hc := fun j => cell_of_row _ p j _ _ _ hr1
  have hf := frozen_row hr1
  have hb0 := fun j => World.cell?_alloc_new w #[.int .u8 0, .int .i64 1, .slice A n c] 111 j
  obtain ⟨vs, g1, g2, g3, g4⟩ := h3.wrs
  have hne : wr.ownBlock ≠ some p := own_ne_row g2 h1 (by decide)
  have hbox : ((w.alloc (.cells #[.int .u8 0, .int .i64 1, .slice A n c] 111))).heap[w.heap.size]? = some (.cells #[.int .u8 0, .int .i64 1, .slice A n c] 111 (0, 0)) := heap_alloc_new w _
  have HNB := Lib.hid (show wr.ownBlock ≠ some w.heap.size from fun e => absurd (g2.lt _ e).2 (Nat.lt_irrefl _))
  have HB := Lib.hid hB
  have HR1 := Lib.hid hr1
  have HG := Lib.hid (own_same g2 (fun k e => hB.block k (g2.lt k e).2))
  have HG1 := Lib.hid g1
  have HG3 := Lib.hid g3
  have HG4 := Lib.hid g4
  have HN := Lib.hid hne
  have HX := Lib.hid hbox
  have HBS := Lib.hid hn
  clear h1 h2 h3 hB hr1 g1 g2 g3 g4 hne hv hbox hM hn
  go_enter Tryz.func94, Tryz.ntmps94
  go_upto_region 1 with fail
  generalize hW : w.alloc (.cells #[.int .u8 0, .int .i64 1, .slice A n c] 111) = W at hc hf hb0 HB HR1 HG HX ⊢
  clear hW
  have hnews : ∀ (W' : World), ∀ j u, ([.int .u8 0, .int .i64 1, .slice A n c] : List Value)[j]? = some u → (W'.alloc (.cells #[.int .u8 0, .int .i64 1, .slice A n c] 111)).cell? ((⟨W'.heap.size, 0, none⟩ : Addr).add j) = some u := fun W' j u hu => by
    have := World.cell?_alloc_new W' #[.int .u8 0, .int .i64 1, .slice A n c] 111 j
    rw [show (⟨W'.heap.size, 0, none⟩ : Addr).add j = ⟨W'.heap.size, j, none⟩ by simp [Addr.add]; intro e; exact e.symm]
    rw [this]; rw [← hu]; simp
  have hone : ∀ u ∈ ([.int .u8 0, .int .i64 1, .slice A n c] : List Value), u.oneCell' = true := by intro u hu; simp at hu; rcases hu with rfl | rfl | rfl <;> rfl
  have HNW := Lib.hid hnews
  have HONE := Lib.hid hone
  have HWN := Lib.hid hwn
  have HPN := Lib.hid (show p ≠ w.heap.size by omega)
  have hwrp : IntKind.i64.wrap ((s.logged : Int) + (n : Int)) = (s.logged : Int) + (n : Int) := IntWalk.i64_in _ (by omega)
  clear hnews hone hwn
  let S2 : World → Prop := fun w' => w'.heap[w.heap.size]? = some (.cells #[.int .u8 0, .int .i64 1, .slice A n c] 111 (0, 0))
  let S1 : World → Prop := fun w' => w'.heap[p]? = some (.cells (stCells s bn bw ch wr b0 b1 b2 b3 d0 d1 d2 d3) 83 (0, 0)) ∧ S2 w'
  have hS1 : ∀ w' : World, S1 w' → (∀ j, w'.cell? ⟨p, j, none⟩ = (stCells s bn bw ch wr b0 b1 b2 b3 d0 d1 d2 d3)[j]?) ∧ (∀ j, w'.cell? ⟨w.heap.size, j, none⟩ = (#[.int .u8 0, .int .i64 1, .slice A n c] : Array Value)[j]?) := fun w' h => ⟨fun j => cell_of_row _ p j _ _ _ h.1, fun j => cell_of_row _ w.heap.size j _ _ _ h.2⟩
  have hS2 : ∀ w' : World, S2 w' → (∀ j, w'.cell? ⟨w.heap.size, j, none⟩ = (#[.int .u8 0, .int .i64 1, .slice A n c] : Array Value)[j]?) := fun w' h => fun j => cell_of_row _ w.heap.size j _ _ _ h
  have HA1 := Lib.hid ((((Below.refl W.heap.size W.drew).alloc (Nat.le_refl _) (.cells #[.int .u8 0, .int .i64 1, .slice A n c] 111)).block p (Array.getElem?_eq_some_iff.1 HR1.out).1).trans HR1.out)
  have HA2 := Lib.hid ((((Below.refl W.heap.size W.drew).alloc (Nat.le_refl _) (.cells #[.int .u8 0, .int .i64 1, .slice A n c] 111)).block w.heap.size (Array.getElem?_eq_some_iff.1 HX.out).1).trans HX.out)
  have HS1 := Lib.hid hS1
  have HS2 := Lib.hid hS2
  clear hS1 hS2 hc hf hb0
  go_cut [] from 4 to 24 (fun wx => WrMid w p M s ⟨0, 1, bs⟩ (.slice A n c) wx)
  case first =>
    refine wp_region_planU 20 [1, 9, 10, 11, 13, 14, 15, 16, 17, 19] [7, 8, 19] [(0, false), (2, false), (3, false), (4, false), (5, false), (6, false), (1, false), (9, false), (10, false), (11, false), (12, false), (13, false), (14, false), (15, false), (16, false), (7, true), (8, true), (17, false), (18, false), (19, true)] S1 S2 (by kernel_rfl) (by kernel_rfl) (fun c a d v w h => by cases d <;> exact h) ⟨HR1.out, HX.out⟩ HX.out ?_
    repeat
      first
        | (refine wpPlanU_read (v := ?_) (by rfl) (by rfl) (by rfl) (fun w' hS => ?_) (fun K hK => ?_)
           rotate_left
           · obtain ⟨hcp, hcb⟩ := HS1.out w' hS
             clear hS
             go_simp
             try with_reducible rfl)
        | (refine wpPlanU_late (v := ?_) (by rfl) (by rfl) (fun w' hS => ?_) (fun K hK => ?_)
           rotate_left
           · have hcb := HS2.out w' hS
             clear hS
             go_simp
             try with_reducible rfl)
      go_simp
      refine hK _ ?_
      clear hK K
    refine wpPlanU_write (by rfl) (fun K hK => ?_)
    go_simp
    refine hK.out _ _ ⟨HA1.out, HA2.out⟩ HA2.out ?_
    clear hK K
    refine wpPlanU_write (by rfl) (fun K hK => ?_)
    refine step_app_wr (by rfl) _ _ (by rfl) wr s.writes.length (wrCells s.writes vs) (by rfl) (HG.out.drew.alloc _) ⟨W.drew.heap.size, 0, none⟩ 1 1 [.int .u8 0, .int .i64 1, .slice A n c] (by rfl) (by rfl) (HNW.out _) HONE.out HWN.out ?_
    intro v1 w1 hown1 hg1 hl1
    obtain ⟨A1, m1, c1, rfl⟩ := own_slice hown1
    have HR2 := Lib.hid (row_keep (W := W.drew) HR1.out hg1 HN.out)
    have HRX := Lib.hid (row_keep (W := W.drew) HX.out hg1 HNB.out)
    have HOWN1 := Lib.hid hown1
    have HGR := Lib.hid hg1
    have HLR := Lib.hid hl1
    clear hown1 hg1 hl1
    go_simp
    refine hK.out _ _ ⟨HR2.out, HRX.out⟩ HRX.out ?_
    clear hK K
    have hc1 := fun j => cell_of_row _ p j _ _ _ HR2.out
    have hf1 := frozen_row HR2.out
    repeat
      first | refine wpPlanU_read (v := ?_) (by rfl) (by rfl) (by rfl) (fun w' hS => ?_) (fun K hK => ?_) | refine wpPlanU_late (v := ?_) (by rfl) (by rfl) (fun w' hS => ?_) (fun K hK => ?_)
      rotate_left
      · clear hS
        go_simp
        try with_reducible rfl
      go_simp
      refine hK _ ?_
      clear hK K
    refine wpPlanU_last (by rfl) (by kernel_rfl) (fun K hK => ?_)
    go_simp
    refine hK.out _ _ (set_far1 HRX.out (by exact HPN.out)) ?_
    clear hK K
    show wpList _ _ _ _ _ _
    go_wp2_with fail
    go_meet
    exact wr_mid H3.out H2.out hpl HM.out HG1.out HG3.out HG4.out HV.out HBS.out HB.out.drew HOWN1.out HGR.out HLR.out HR2.out HRX.out HNB.out
  case rest =>
    obtain ⟨M1, hq, hst, hbox, hnb, hlt⟩ := hcut
    have hv1 := HV.out.step hst
    obtain ⟨bn, bw, ch, wr, b0, b1, b2, b3, d0, d1, d2, d3, q1, q2, q3⟩ := hq
    generalize hS0 : ({ s with writes := s.writes ++ [⟨0, 1, bs⟩], logged := s.logged + bs.length } : J.St) = S0 at q1 q3
    have HS0 := Lib.hid hS0
    have HSZ := Lib.hid (show S0.disk.a1.length + n ≤ 100000000 by rw [← hS0]; exact hsz)
    have Q1 := Lib.hid q1
    have Q2 := Lib.hid q2
    have Q3 := Lib.hid q3
    have HST := Lib.hid hst
    have HBX := Lib.hid hbox
    have HV1 := Lib.hid hv1
    have hcp := fun j => cell_of_row wc p j _ _ _ q1
    have hcb := fun j => cell_of_row wc w.heap.size j _ _ _ hbox
    clear hS0 q1 q2 q3 hst hbox hv1 hnb hlt hsz
    go_upto_region 3 with fail
    obtain ⟨A', c', eA, hc', hy⟩ := HV1.out.by
    injection eA with e1 e2 e3
    subst e1 e3
    have HY := Lib.hid hy
    clear hy hcp hcb e2
    refine wp_region_plan 17 [(0, false), (1, false), (2, false), (3, false), (4, false), (5, false), (6, false), (7, false), (8, false), (9, false), (10, false), (11, false), (12, false), (14, false), (15, false), (16, false), (13, true)] (fun w' => w'.heap[p]? = some (.cells (stCells S0 bn bw ch wr b0 b1 b2 b3 d0 d1 d2 d3) 83 (0, 0)) ∧ w'.heap[w.heap.size]? = some (.cells #[.int .u8 0, .int .i64 1, .slice A n c] 111 (0, 0))) (by kernel_rfl) (by kernel_rfl) (fun c a d v w h => by cases d <;> exact h) ⟨Q1.out, HBX.out⟩ ?_
    repeat
      refine wpPlan_read (v := ?_) (by rfl) (by rfl) (fun w' hS => ?_) (fun K hK => ?_)
      rotate_left
      · have hcp := fun j => cell_of_row w' p j _ _ _ hS.1
        have hcb := fun j => cell_of_row w' w.heap.size j _ _ _ hS.2
        clear hS
        go_simp
        try with_reducible rfl
      go_simp
      refine hK _ ?_
      clear hK K
    refine wpPlan_write (by rfl) (fun K hK => ?_)
    refine step_app_area (by rfl) _ _ (by rfl) M1 d3 S0.disk.a1 (by rfl) (show Area wc.drew M1 d3 S0.disk.a1 from Q3.out.e3) M1 A n c bs (by rfl) (by rw [← HBS.out]; exact HY.out.drew) h0 (by exact HSZ.out) ?_
    intro v1 w1 happ
    obtain ⟨A1, m1, c1, rfl⟩ := own_slice happ.own
    have happ : Appended wc w1 M1 d3 (.slice A1 m1 c1) (S0.disk.a1 ++ bs) := ⟨happ.own, happ.os, happ.tape, happ.output, happ.size, happ.block, happ.row⟩
    have HR2 := Lib.hid ((happ.block p (Array.getElem?_eq_some_iff.1 Q1.out).1 (fun e => Q3.out.ne Q1.out Q2.out (by simp [e.2]))).trans Q1.out)
    have HRX := Lib.hid ((happ.block w.heap.size (Array.getElem?_eq_some_iff.1 HBX.out).1 (area_ne_box Q3.out.e3 HBX.out)).trans HBX.out)
    have HAP := Lib.hid happ
    clear happ
    go_simp
    refine hK.out _ _ ⟨HR2.out, HRX.out⟩ ?_
    clear hK K
    have hc1 := fun j => cell_of_row _ p j _ _ _ HR2.out
    have hf1 := frozen_row HR2.out
    show wpList _ _ _ _ _ _
    go_wp2_with fail
    refine bodyPost_ret (results_none rfl _ _ _) rfl ?_
    have hT := Q3.out.a1Turn HAP.out
    have hg2 := grown_set (World.grownBy.refl w1 (some p)) 18 (.slice A1 m1 c1)
    have hrow := blk_set HR2.out 18 (.slice A1 m1 c1)
    have hm' : M1 p ∨ (Value.slice A1 m1 c1).ownBlock = some p := .inl Q2.out
    have hw : J.write s ⟨0, 1, bs⟩ = { S0 with disk := { S0.disk with a1 := S0.disk.a1 ++ bs } } := by rw [← HS0.out]; simp [J.write, J.done, J.Img.setArea, J.Img.area]
    rw [hw]
    exact ⟨⟨_, rfl⟩, _, ⟨bn, bw, ch, wr, b0, b1, b2, b3, d0, d1, d2, _, hrow, hm', hT.1.own HR2.out hm' hg2⟩, HST.out.trans (hT.2.trans (Step.of_grown hg2 (fun k e _ => by cases e; exact hm')))⟩
end Go.Proofs.YtjbepnkchoaipaaGreat
