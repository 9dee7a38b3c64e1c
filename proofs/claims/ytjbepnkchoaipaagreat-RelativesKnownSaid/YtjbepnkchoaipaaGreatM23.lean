import Derived.Test.YtjbepnkchoaipaaGreatM21
import Derived.Deep.QuietTactic
import Derived.BigQuiet
set_option linter.unusedVariables false
set_option linter.unusedSimpArgs false
/- Contract: Commit of an open transaction. -/
namespace Go.Proofs.YtjbepnkchoaipaaGreat
open Go.RowKit Go.Lib Go.Maps Go.WideMaps
set_option maxRecDepth 100000
theorem Area.slice_len {w : World} {M : Nat → Prop} {v : Value} {l : List UInt8} (h : Area w M v l) : ∃ A c, v = .slice A l.length c := by
  rcases h with ⟨h, _⟩ | h
  · exact own_slice_len h
  · obtain ⟨A, e⟩ := h.slice_; exact ⟨_, _, e⟩
section
variable {P : Program} {ops : Array Oper} {Q : Exit → Act → World → Prop} {S : World → Prop}
theorem wpPlan_readG {L : Act → World → Prop} {i : Nat} {o : Oper} {t : List (Nat × Bool)} {a : Act} {w : World} {v : Value} (ho : ops[i]? = some o) (hg : Region.wanted o (yielded ops a.tmps) = true) (hy : ∀ w', S w' → (execOp a.eval o).run P w' = .ok (.value v) w')
    (h : ∀ K : Act → Prop, (∀ a, wpPlan P ops Q S L t a w → K a) → K (a.put o.dst v)) : wpPlan P ops Q S L ((i, false) :: t) a w :=
  ⟨o, v, ho, .inl ⟨hg, hy⟩, h _ fun _ h => h⟩
theorem wpPlan_skip {L : Act → World → Prop} {i : Nat} {o : Oper} {t : List (Nat × Bool)} {a : Act} {w : World} (ho : ops[i]? = some o) (hg : Region.wanted o (yielded ops a.tmps) = false)
    (h : ∀ K : Act → Prop, (∀ a, wpPlan P ops Q S L t a w → K a) → K (a.put o.dst undef)) : wpPlan P ops Q S L ((i, false) :: t) a w :=
  ⟨o, undef, ho, .inr ⟨hg, rfl⟩, h _ fun _ h => h⟩
end
theorem area_eq0 {s : J.St} (h : s.area = 0) : s.disk.area s.area = s.disk.a0 := by unfold J.Img.area; rw [if_pos h]
theorem area_eq1 {s : J.St} (h : s.area = 1) : s.disk.area s.area = s.disk.a1 := by unfold J.Img.area; rw [if_neg (by omega)]
theorem commit_end {s : J.St} {l rc : List UInt8} (ho : s.opn = true) (hsp : s.spoilt = false) (ha : s.disk.area s.area = l) (hr : J.record 0 (s.commits + 1) s.changes = rc) (hf : l.length + rc.length ≤ 4194304) : J.commit s = J.commitEnd s := by
  have : J.fits s (J.record 0 (s.commits + 1) s.changes) = true := by unfold J.fits; rw [ha, hr]; exact decide_eq_true hf
  unfold J.commit
  rw [if_neg (by rw [ho]; simp), if_neg (by rw [hsp]; simp), if_pos this]
theorem commit_full {s : J.St} {l rc : List UInt8} (ho : s.opn = true) (hsp : s.spoilt = false) (ha : s.disk.area s.area = l) (hr : J.record 0 (s.commits + 1) s.changes = rc) (hf : l.length + rc.length ≤ 4194304) (hl : ¬ rc.length ≤ 16777216 - s.logged) : J.commit s = (s, 0, 9) := by
  rw [commit_end ho hsp ha hr hf]
  unfold J.commitEnd
  rw [hr, if_neg (by simp; intro _; omega)]
theorem commit_ok {s : J.St} {l rc : List UInt8} (ho : s.opn = true) (hsp : s.spoilt = false) (ha : s.disk.area s.area = l) (hr : J.record 0 (s.commits + 1) s.changes = rc) (hf : l.length + rc.length ≤ 4194304) (hl : rc.length ≤ 16777216 - s.logged) : J.commit s = (J.committed s, (s.commits : Int) + 1, 0) := by
  rw [commit_end ho hsp ha hr hf]
  unfold J.commitEnd
  rw [hr, if_pos]
  have : J.fits s rc = true := by unfold J.fits; rw [ha]; exact decide_eq_true hf
  rw [this]; simpa using hl
theorem ok_caux {A l r e : Nat} (h1 : A ≤ 8388608 + l + e) (h2 : r = 13 + e) : A ≤ 8388608 + (l + r) + 0 := by omega
theorem ok_committed {s : J.St} {l rc : List UInt8} (o : Ok s) (ho : s.opn = true) (ha : s.disk.area s.area = l) (hr : J.record 0 (s.commits + 1) s.changes = rc) (hf : l.length + rc.length ≤ 4194304) (hl : s.logged + rc.length ≤ 16777216) : Ok (J.committed s) := by
  have hrl : rc.length = 13 + (J.encs s.changes).length := by rw [← hr]; exact J.record_len _ _ _
  have hd : (J.committed s).disk = s.disk.setArea s.area (l ++ rc) := by
    have : (J.committed s).disk = s.disk.setArea s.area (s.disk.area s.area ++ (J.record 0 (s.commits + 1) s.changes).take (J.record 0 (s.commits + 1) s.changes).length) := rfl
    rw [this, ha, hr, List.take_length]
  have hlg : (J.committed s).logged = s.logged + rc.length := by
    have : (J.committed s).logged = s.logged + (J.record 0 (s.commits + 1) s.changes).length := rfl
    rw [this, hr]
  have hwr : (J.committed s).writes.length = s.writes.length + 1 := by
    have : (J.committed s).writes = s.writes ++ [⟨0, s.area, J.record 0 (s.commits + 1) s.changes⟩] := rfl
    rw [this]; simp
  have hlen : (l ++ rc).length ≤ 8388608 := by rw [List.length_append]; omega
  have hcm := o.commits
  have hwn := o.writes
  have hnow := o.now
  have e1 : (J.committed s).commits = s.commits + 1 := rfl
  have e2 : (J.committed s).now = s.now := rfl
  have e3 : (J.committed s).changes = [] := rfl
  have e4 : (J.committed s).was = [] := rfl
  have e5 : (J.committed s).opn = false := rfl
  have e6 : (J.committed s).size = s.size := rfl
  have e7 : (J.committed s).gen = s.gen := rfl
  have e8 : (J.committed s).area = s.area := rfl
  have e9 : (J.committed s).side = s.side := rfl
  generalize J.committed s = C at *
  refine ⟨by rw [e6]; exact o.size, ?_, by rw [e7]; exact o.gen, by rw [e8]; exact o.area, by rw [e9]; exact o.side, by rw [hlg]; exact hl, ?_, by rw [e3]; exact Nat.zero_le _, (fun h => by rw [e5] at h; cases h), (fun _ => e3), ?_, ?_, ?_, ?_, ?_, ?_⟩
  · rw [e1, hlg, hrl]; clear hnow hd hlen; omega
  · rw [hwr, hlg, hrl]; clear hnow hd hlen; omega
  · rw [hd]; exact J.set_a0 _ _ _ _ o.a0 hlen
  · rw [hd]; exact J.set_a1 _ _ _ _ o.a1 hlen
  · rw [hd, J.set_h0]; exact o.h0
  · rw [hd, J.set_h1]; exact o.h1
  · rw [e2, e3, hlg]; exact ok_caux hnow hrl
  · rw [e4]; exact Nat.zero_le _
theorem below_drewN {a b : World} {n k : Nat} (h : Below n a b) : Below n a (b.drewN k) := ⟨h.os, h.tape, h.output, h.size, h.block⟩
theorem chs_drew {w : World} {M : Nat → Prop} {A : Option Addr} {n : Nat} {L : List J.Chg} (h : Chs w M A n L) : Chs w.drew M A n L := h

set_option maxHeartbeats 8000000 in
theorem commit_fit0 (p : Nat) (M : Nat → Prop) (s : J.St) (w : World) (h : StoreR w p M s) (ho : s.opn = true) (hsp : s.spoilt = false) (hs : CSmall s s.was) (hcm : s.commits + 1 < 4294967296) (ha : s.area = 0) (hfit : s.disk.a0.length + (J.record 0 (s.commits + 1) s.changes).length ≤ 4194304) :
    Calls Tryz.prog 70 #[.pointer (some ⟨p, 0, none⟩)] w fun e w' => e = .returned (.tuple #[.int .i64 (J.commit s).2.1, .int .i64 (J.commit s).2.2]) ∧ ∃ M', StoreR w' p M' (J.commit s).1 ∧ Step M M' w w' := by
  have HH := Lib.hid h
  have HS := Lib.hid hs
  have HST := Lib.hid (state_any p M s true w h)
  have HO := Lib.hid ho
  obtain ⟨bn, bw, ch, wr, b0, b1, b2, b3, d0, d1, d2, d3, h1, h2, h3, h4⟩ := h
  obtain ⟨Ac, nc, cc, rfl, hch, hnc⟩ := h3.chs.chs
  obtain ⟨A2, c2, rfl⟩ := h3.e2.slice_len
  obtain ⟨A3, c3, rfl⟩ := h3.e3.slice_len
  have H1 := Lib.hid h1
  have H2 := Lib.hid h2
  have H3 := Lib.hid h3
  have H4 := Lib.hid h4
  have HCH := Lib.hid hch
  have hc := fun j => cell_of_row w p j _ _ _ h1
  rw [hsp] at hc
  have HE1 := Lib.hid (show (J.encs s.changes).length ≤ 4194304 by have := h4.size; have := h4.encs ho; omega)
  have HE2 := Lib.hid (show nc ≤ 4194304 by have := h4.size; have := h4.chs; omega)
  have hcw : IntKind.i64.wrap ((s.commits : Int) + 1) = ((s.commits + 1 : Nat) : Int) := by rw [IntWalk.i64_in _ (by omega)]; omega
  have HCM := Lib.hid hcm
  have HSP := Lib.hid hsp
  clear h1 h2 h3 h4 ho hs hch hsp hcm hnc
  go_enter Tryz.func70, Tryz.ntmps70
  go_wp2_with fail
  refine HST.out.mono ?_
  rintro e w1 ⟨rfl, rfl⟩
  rw [HO.out]
  go_upto_region 6 with fail
  clear hc
  refine wp_region_plan 10 [(0, false), (1, false), (2, false), (3, false), (4, false), (5, false), (6, false), (7, false), (8, false), (9, true)] (fun w' => w'.heap[p]? = some (.cells (stCells s bn bw (.slice Ac nc cc) wr b0 b1 b2 b3 d0 d1 (.slice A2 s.disk.a0.length c2) (.slice A3 s.disk.a1.length c3)) 83 (0, 0))) (by kernel_rfl) (by kernel_rfl) (fun c a d v w h => by cases d <;> exact h) H1.out ?_
  repeat
    refine wpPlan_read (v := ?_) (by rfl) (by rfl) (fun w' hS => ?_) (fun K hK => ?_)
    rotate_left
    · have hcp := fun j => cell_of_row w' p j _ _ _ hS
      clear hS
      go_simp
      try with_reducible rfl
    go_simp
    refine hK _ ?_
    clear hK K
  refine wpPlan_write (by rfl) (fun K hK => ?_)
  go_simp
  have hrec := record_any 0 (s.commits + 1) Ac nc cc s.changes w.drew NoM (chs_drew HCH.out) (by omega) (by have := HCM.out; omega) (by have := HE1.out; omega) (by have := HE2.out; omega)
  refine hrec.mono ?_
  rintro e w2 ⟨v2, rfl, hown2, hb2⟩
  clear hrec
  obtain ⟨Ar, cr, rfl⟩ := own_slice_len hown2
  have hb2 : Below w.heap.size w w2 := below_drew_l hb2
  have HB2 := Lib.hid hb2
  have HO2 := Lib.hid (show w2.ownsRow w.heap.size _ _ _ _ _ from hown2)
  have HR2 := Lib.hid ((hb2.block p (Array.getElem?_eq_some_iff.1 H1.out).1).trans H1.out)
  clear hown2 hb2
  refine hK.out _ _ HR2.out ?_
  clear hK K
  show wpList _ _ _ _ _ _
  generalize hRR : J.record 0 (s.commits + 1) s.changes = rc at HO2 ⊢
  have HRC := Lib.hid hRR
  have HRL := Lib.hid (show rc.length = 13 + (J.encs s.changes).length by rw [← hRR]; exact J.record_len _ _ _)
  rw [hRR] at hfit
  clear hRR
  have HQ2 := Lib.hid (HH.out.q.1.cap.below HB2.out)
  have HS2 := Lib.hid (own_sl (M := fun k => M k ∧ k < w.heap.size) HO2.out (fun k h => h.2))
  have hc := fun j => cell_of_row w2 p j _ _ _ HR2.out
  have hfi : ¬ (4194304 : Int) < (s.disk.a0.length : Int) + (rc.length : Int) := by omega
  have hfw : IntKind.i64.wrap ((s.disk.a0.length : Int) + (rc.length : Int)) = (s.disk.a0.length : Int) + (rc.length : Int) := IntWalk.i64_in _ (by omega)
  have hlogd := H4.out.logged
  have hlw : IntKind.i64.wrap (16777216 - (s.logged : Int)) = 16777216 - (s.logged : Int) := IntWalk.i64_in _ (by omega)
  have HLOGD := Lib.hid hlogd
  have HFIT := Lib.hid hfit
  clear hlogd hfit
  go_upto_region 7 with fail
  clear hc
  refine wp_region_plan 14 [(0, false), (1, false), (2, false), (3, false), (4, false), (5, false), (6, false), (7, false), (8, false), (9, false), (10, false), (11, false), (12, false), (13, false)] (fun w' => w'.heap[p]? = some (.cells (stCells s bn bw (.slice Ac nc cc) wr b0 b1 b2 b3 d0 d1 (.slice A2 s.disk.a0.length c2) (.slice A3 s.disk.a1.length c3)) 83 (0, 0))) (by kernel_rfl) (by kernel_rfl) (fun c a d v w h => by cases d <;> exact h) HR2.out ?_
  repeat
    first | refine wpPlan_read (v := ?_) (by rfl) (by rfl) (fun w' hS => ?_) (fun K hK => ?_) | refine wpPlan_readG (v := ?_) (by rfl) (by rfl) (fun w' hS => ?_) (fun K hK => ?_)
    rotate_left
    · have hcp := fun j => cell_of_row w' p j _ _ _ hS
      clear hS
      go_simp
      try with_reducible rfl
    go_simp
    refine hK _ ?_
    clear hK K
  show wpList _ _ _ _ _ _
  go_upto_region 11 with fail
  have hlogc : (16777216 : Int) - (s.logged : Int) < (rc.length : Int) ∨ ¬ (16777216 : Int) - (s.logged : Int) < (rc.length : Int) := Classical.em _
  rcases hlogc with hlc | hlc
  · have HRES := Lib.hid (show J.commit s = (s, 0, 9) from commit_full HO.out HSP.out (area_eq0 ha) HRC.out HFIT.out (by have := HLOGD.out; omega))
    refine wp_region_plan 24 [(0, false), (1, false), (2, false), (3, false), (4, false), (5, false), (6, false), (7, false), (8, false), (9, false), (10, false), (11, false), (12, false), (13, false), (14, false), (15, false), (16, false), (17, false), (18, false), (19, false), (20, false), (21, false), (22, false), (23, false)] (fun w' => w'.heap[p]? = some (.cells (stCells s bn bw (.slice Ac nc cc) wr b0 b1 b2 b3 d0 d1 (.slice A2 s.disk.a0.length c2) (.slice A3 s.disk.a1.length c3)) 83 (0, 0))) (by kernel_rfl) (by kernel_rfl) (fun c a d v w h => by cases d <;> exact h) HR2.out ?_
    repeat
      first | refine wpPlan_read (v := ?_) (by rfl) (by rfl) (fun w' hS => ?_) (fun K hK => ?_) | refine wpPlan_readG (v := ?_) (by rfl) (by rfl) (fun w' hS => ?_) (fun K hK => ?_)
      rotate_left
      · have hcp := fun j => cell_of_row w' p j _ _ _ hS
        clear hS
        go_simp
        try with_reducible rfl
      go_simp
      refine hK _ ?_
      clear hK K
    show wpList _ _ _ _ _ _
    go_wp2_with fail
    go_ret2
    rw [HRES.out]
    exact ⟨rfl, M, HH.out.below HB2.out.drew.drew, Step.of_below HB2.out.drew.drew⟩
  · have HRES := Lib.hid (show J.commit s = (J.committed s, (s.commits : Int) + 1, 0) from commit_ok HO.out HSP.out (area_eq0 ha) HRC.out HFIT.out (by have := HLOGD.out; omega))
    have HLC := Lib.hid (show s.logged + rc.length ≤ 16777216 by have := HLOGD.out; omega)
    refine wp_region_plan 24 [(0, false), (1, false), (2, false), (3, false), (4, false), (5, false), (6, false), (7, false), (8, false), (9, false), (10, false), (11, false), (12, false), (13, false), (14, false), (15, false), (16, false), (17, false), (18, false), (19, false), (20, false), (21, false), (22, false), (23, false)] (fun w' => w'.heap[p]? = some (.cells (stCells s bn bw (.slice Ac nc cc) wr b0 b1 b2 b3 d0 d1 (.slice A2 s.disk.a0.length c2) (.slice A3 s.disk.a1.length c3)) 83 (0, 0))) (by kernel_rfl) (by kernel_rfl) (fun c a d v w h => by cases d <;> exact h) HR2.out ?_
    repeat
      first | refine wpPlan_read (v := ?_) (by rfl) (by rfl) (fun w' hS => ?_) (fun K hK => ?_) | refine wpPlan_readG (v := ?_) (by rfl) (by rfl) (fun w' hS => ?_) (fun K hK => ?_)
      rotate_left
      · have hcp := fun j => cell_of_row w' p j _ _ _ hS
        clear hS
        go_simp
        try with_reducible rfl
      go_simp
      refine hK _ ?_
      clear hK K
    show wpList _ _ _ _ _ _
    have hc := fun j => cell_of_row w2 p j _ _ _ HR2.out
    go_wp2_with fail
    have ho := H4.out
    have ha0 := ho.a0
    have ha1 := ho.a1
    have hh0 := ho.h0
    have hh1 := ho.h1
    have hwn := ho.writes
    have hlg := ho.logged
    have hfi2 := HFIT.out
    have hrl := HRL.out
    clear ho hc
    refine (write_any p _ s 0 0 (.slice Ar rc.length cr) rc w2.drew.drew (HQ2.out.below (Below.refl _ w2).drew.drew) (by omega) (by omega) (HS2.out.step (Step.of_below (Below.refl _ w2).drew.drew)) (by omega) (by omega) (by omega) (fun _ => by omega) (by omega) (by omega) (by omega) (by omega)).mono ?_
    rintro e w5 ⟨⟨r5, rfl⟩, M5, hq5, hst5⟩
    have hcm5 : (J.write s ⟨0, 0, rc⟩).commits = s.commits := rfl
    generalize hS5 : J.write s ⟨0, 0, rc⟩ = S5 at hq5 hcm5
    have HE5 := Lib.hid hS5
    obtain ⟨bn5, bw5, ch5, wr5, x0, x1, x2, x3, y0, y1, y2, y3, q1, q2, q3⟩ := hq5
    have Q1 := Lib.hid q1
    have Q2 := Lib.hid q2
    have Q3 := Lib.hid q3
    have HT5 := Lib.hid hst5
    have hc5 := fun j => cell_of_row w5 p j _ _ _ q1
    have hf5 := frozen_row q1
    clear hS5 q1 q2 q3 hst5 ha0 ha1 hh0 hh1 hwn hlg hfi2 hrl
    go_wp2_with fail
    go_ret2
    have hg5 := grown_set (grown_set (grown_set (grown_set (World.grownBy.refl w5 (some p)) 7 (.int .i64 ((s.commits : Int) + 1))) 1 (.bool false)) 3 (.slice none 0 0)) 6 (.map none)
    have hrow5 := blk_set (blk_set (blk_set (blk_set Q1.out 7 (.int .i64 ((s.commits : Int) + 1))) 1 (.bool false)) 3 (.slice none 0 0)) 6 (.map none)
    have P := Q3.out.own Q1.out Q2.out hg5
    have hcomp : J.committed s = { S5 with commits := s.commits + 1, opn := false, changes := [], was := [] } := by
      rw [← HE5.out, ← HRC.out]; unfold J.committed; rw [ha]
    have hOk : Ok (J.committed s) := ok_committed H4.out HO.out (area_eq0 ha) HRC.out HFIT.out HLC.out
    rw [HRES.out]
    refine ⟨rfl, M5, ?_, ?_⟩
    · rw [hcomp] at hOk ⊢
      exact ⟨bn5, none, .slice none 0 0, wr5, x0, x1, x2, x3, y0, y1, y2, y3, hrow5, Q2.out, ⟨P.now, P.mbn, rfl, ChRow.nil_ _ _ _, fun k h => (by cases h), P.wrs, P.f0, P.f1, P.f2, P.f3, P.e0, P.e1, P.e2, P.e3, P.dd⟩, hOk⟩
    · exact Step.uncap ((Step.of_below HB2.out.drew.drew).trans (HT5.out.trans (Step.of_grown hg5 (fun k e _ => by cases e; exact Q2.out))))

set_option maxHeartbeats 8000000 in
theorem commit_fit1 (p : Nat) (M : Nat → Prop) (s : J.St) (w : World) (h : StoreR w p M s) (ho : s.opn = true) (hsp : s.spoilt = false) (hs : CSmall s s.was) (hcm : s.commits + 1 < 4294967296) (ha : s.area = 1) (hfit : s.disk.a1.length + (J.record 0 (s.commits + 1) s.changes).length ≤ 4194304) :
    Calls Tryz.prog 70 #[.pointer (some ⟨p, 0, none⟩)] w fun e w' => e = .returned (.tuple #[.int .i64 (J.commit s).2.1, .int .i64 (J.commit s).2.2]) ∧ ∃ M', StoreR w' p M' (J.commit s).1 ∧ Step M M' w w' := by
  have HH := Lib.hid h
  have HS := Lib.hid hs
  have HST := Lib.hid (state_any p M s true w h)
  have HO := Lib.hid ho
  obtain ⟨bn, bw, ch, wr, b0, b1, b2, b3, d0, d1, d2, d3, h1, h2, h3, h4⟩ := h
  obtain ⟨Ac, nc, cc, rfl, hch, hnc⟩ := h3.chs.chs
  obtain ⟨A2, c2, rfl⟩ := h3.e2.slice_len
  obtain ⟨A3, c3, rfl⟩ := h3.e3.slice_len
  have H1 := Lib.hid h1
  have H2 := Lib.hid h2
  have H3 := Lib.hid h3
  have H4 := Lib.hid h4
  have HCH := Lib.hid hch
  have hc := fun j => cell_of_row w p j _ _ _ h1
  rw [hsp] at hc
  have HE1 := Lib.hid (show (J.encs s.changes).length ≤ 4194304 by have := h4.size; have := h4.encs ho; omega)
  have HE2 := Lib.hid (show nc ≤ 4194304 by have := h4.size; have := h4.chs; omega)
  have hcw : IntKind.i64.wrap ((s.commits : Int) + 1) = ((s.commits + 1 : Nat) : Int) := by rw [IntWalk.i64_in _ (by omega)]; omega
  have HCM := Lib.hid hcm
  have HSP := Lib.hid hsp
  clear h1 h2 h3 h4 ho hs hch hsp hcm hnc
  go_enter Tryz.func70, Tryz.ntmps70
  go_wp2_with fail
  refine HST.out.mono ?_
  rintro e w1 ⟨rfl, rfl⟩
  rw [HO.out]
  go_upto_region 6 with fail
  clear hc
  refine wp_region_plan 10 [(0, false), (1, false), (2, false), (3, false), (4, false), (5, false), (6, false), (7, false), (8, false), (9, true)] (fun w' => w'.heap[p]? = some (.cells (stCells s bn bw (.slice Ac nc cc) wr b0 b1 b2 b3 d0 d1 (.slice A2 s.disk.a0.length c2) (.slice A3 s.disk.a1.length c3)) 83 (0, 0))) (by kernel_rfl) (by kernel_rfl) (fun c a d v w h => by cases d <;> exact h) H1.out ?_
  repeat
    refine wpPlan_read (v := ?_) (by rfl) (by rfl) (fun w' hS => ?_) (fun K hK => ?_)
    rotate_left
    · have hcp := fun j => cell_of_row w' p j _ _ _ hS
      clear hS
      go_simp
      try with_reducible rfl
    go_simp
    refine hK _ ?_
    clear hK K
  refine wpPlan_write (by rfl) (fun K hK => ?_)
  go_simp
  have hrec := record_any 0 (s.commits + 1) Ac nc cc s.changes w.drew NoM (chs_drew HCH.out) (by omega) (by have := HCM.out; omega) (by have := HE1.out; omega) (by have := HE2.out; omega)
  refine hrec.mono ?_
  rintro e w2 ⟨v2, rfl, hown2, hb2⟩
  clear hrec
  obtain ⟨Ar, cr, rfl⟩ := own_slice_len hown2
  have hb2 : Below w.heap.size w w2 := below_drew_l hb2
  have HB2 := Lib.hid hb2
  have HO2 := Lib.hid (show w2.ownsRow w.heap.size _ _ _ _ _ from hown2)
  have HR2 := Lib.hid ((hb2.block p (Array.getElem?_eq_some_iff.1 H1.out).1).trans H1.out)
  clear hown2 hb2
  refine hK.out _ _ HR2.out ?_
  clear hK K
  show wpList _ _ _ _ _ _
  generalize hRR : J.record 0 (s.commits + 1) s.changes = rc at HO2 ⊢
  have HRC := Lib.hid hRR
  have HRL := Lib.hid (show rc.length = 13 + (J.encs s.changes).length by rw [← hRR]; exact J.record_len _ _ _)
  rw [hRR] at hfit
  clear hRR
  have HQ2 := Lib.hid (HH.out.q.1.cap.below HB2.out)
  have HS2 := Lib.hid (own_sl (M := fun k => M k ∧ k < w.heap.size) HO2.out (fun k h => h.2))
  have hc := fun j => cell_of_row w2 p j _ _ _ HR2.out
  have hfi : ¬ (4194304 : Int) < (s.disk.a1.length : Int) + (rc.length : Int) := by omega
  have hfw : IntKind.i64.wrap ((s.disk.a1.length : Int) + (rc.length : Int)) = (s.disk.a1.length : Int) + (rc.length : Int) := IntWalk.i64_in _ (by omega)
  have hlogd := H4.out.logged
  have hlw : IntKind.i64.wrap (16777216 - (s.logged : Int)) = 16777216 - (s.logged : Int) := IntWalk.i64_in _ (by omega)
  have HLOGD := Lib.hid hlogd
  have HFIT := Lib.hid hfit
  clear hlogd hfit
  go_upto_region 7 with fail
  clear hc
  refine wp_region_plan 14 [(0, false), (1, false), (2, false), (3, false), (4, false), (5, false), (6, false), (7, false), (8, false), (9, false), (10, false), (11, false), (12, false), (13, false)] (fun w' => w'.heap[p]? = some (.cells (stCells s bn bw (.slice Ac nc cc) wr b0 b1 b2 b3 d0 d1 (.slice A2 s.disk.a0.length c2) (.slice A3 s.disk.a1.length c3)) 83 (0, 0))) (by kernel_rfl) (by kernel_rfl) (fun c a d v w h => by cases d <;> exact h) HR2.out ?_
  repeat
    first | refine wpPlan_read (v := ?_) (by rfl) (by rfl) (fun w' hS => ?_) (fun K hK => ?_) | refine wpPlan_readG (v := ?_) (by rfl) (by rfl) (fun w' hS => ?_) (fun K hK => ?_)
    rotate_left
    · have hcp := fun j => cell_of_row w' p j _ _ _ hS
      clear hS
      go_simp
      try with_reducible rfl
    go_simp
    refine hK _ ?_
    clear hK K
  show wpList _ _ _ _ _ _
  go_upto_region 11 with fail
  have hlogc : (16777216 : Int) - (s.logged : Int) < (rc.length : Int) ∨ ¬ (16777216 : Int) - (s.logged : Int) < (rc.length : Int) := Classical.em _
  rcases hlogc with hlc | hlc
  · have HRES := Lib.hid (show J.commit s = (s, 0, 9) from commit_full HO.out HSP.out (area_eq1 ha) HRC.out HFIT.out (by have := HLOGD.out; omega))
    refine wp_region_plan 24 [(0, false), (1, false), (2, false), (3, false), (4, false), (5, false), (6, false), (7, false), (8, false), (9, false), (10, false), (11, false), (12, false), (13, false), (14, false), (15, false), (16, false), (17, false), (18, false), (19, false), (20, false), (21, false), (22, false), (23, false)] (fun w' => w'.heap[p]? = some (.cells (stCells s bn bw (.slice Ac nc cc) wr b0 b1 b2 b3 d0 d1 (.slice A2 s.disk.a0.length c2) (.slice A3 s.disk.a1.length c3)) 83 (0, 0))) (by kernel_rfl) (by kernel_rfl) (fun c a d v w h => by cases d <;> exact h) HR2.out ?_
    repeat
      first | refine wpPlan_read (v := ?_) (by rfl) (by rfl) (fun w' hS => ?_) (fun K hK => ?_) | refine wpPlan_readG (v := ?_) (by rfl) (by rfl) (fun w' hS => ?_) (fun K hK => ?_)
      rotate_left
      · have hcp := fun j => cell_of_row w' p j _ _ _ hS
        clear hS
        go_simp
        try with_reducible rfl
      go_simp
      refine hK _ ?_
      clear hK K
    show wpList _ _ _ _ _ _
    go_wp2_with fail
    go_ret2
    rw [HRES.out]
    exact ⟨rfl, M, HH.out.below HB2.out.drew.drew, Step.of_below HB2.out.drew.drew⟩
  · have HRES := Lib.hid (show J.commit s = (J.committed s, (s.commits : Int) + 1, 0) from commit_ok HO.out HSP.out (area_eq1 ha) HRC.out HFIT.out (by have := HLOGD.out; omega))
    have HLC := Lib.hid (show s.logged + rc.length ≤ 16777216 by have := HLOGD.out; omega)
    refine wp_region_plan 24 [(0, false), (1, false), (2, false), (3, false), (4, false), (5, false), (6, false), (7, false), (8, false), (9, false), (10, false), (11, false), (12, false), (13, false), (14, false), (15, false), (16, false), (17, false), (18, false), (19, false), (20, false), (21, false), (22, false), (23, false)] (fun w' => w'.heap[p]? = some (.cells (stCells s bn bw (.slice Ac nc cc) wr b0 b1 b2 b3 d0 d1 (.slice A2 s.disk.a0.length c2) (.slice A3 s.disk.a1.length c3)) 83 (0, 0))) (by kernel_rfl) (by kernel_rfl) (fun c a d v w h => by cases d <;> exact h) HR2.out ?_
    repeat
      first | refine wpPlan_read (v := ?_) (by rfl) (by rfl) (fun w' hS => ?_) (fun K hK => ?_) | refine wpPlan_readG (v := ?_) (by rfl) (by rfl) (fun w' hS => ?_) (fun K hK => ?_)
      rotate_left
      · have hcp := fun j => cell_of_row w' p j _ _ _ hS
        clear hS
        go_simp
        try with_reducible rfl
      go_simp
      refine hK _ ?_
      clear hK K
    show wpList _ _ _ _ _ _
    have hc := fun j => cell_of_row w2 p j _ _ _ HR2.out
    go_wp2_with fail
    have ho := H4.out
    have ha0 := ho.a0
    have ha1 := ho.a1
    have hh0 := ho.h0
    have hh1 := ho.h1
    have hwn := ho.writes
    have hlg := ho.logged
    have hfi2 := HFIT.out
    have hrl := HRL.out
    clear ho hc
    refine (write_any p _ s 0 1 (.slice Ar rc.length cr) rc w2.drew.drew (HQ2.out.below (Below.refl _ w2).drew.drew) (by omega) (by omega) (HS2.out.step (Step.of_below (Below.refl _ w2).drew.drew)) (by omega) (by omega) (by omega) (fun _ => by omega) (by omega) (by omega) (by omega) (by omega)).mono ?_
    rintro e w5 ⟨⟨r5, rfl⟩, M5, hq5, hst5⟩
    have hcm5 : (J.write s ⟨0, 1, rc⟩).commits = s.commits := rfl
    generalize hS5 : J.write s ⟨0, 1, rc⟩ = S5 at hq5 hcm5
    have HE5 := Lib.hid hS5
    obtain ⟨bn5, bw5, ch5, wr5, x0, x1, x2, x3, y0, y1, y2, y3, q1, q2, q3⟩ := hq5
    have Q1 := Lib.hid q1
    have Q2 := Lib.hid q2
    have Q3 := Lib.hid q3
    have HT5 := Lib.hid hst5
    have hc5 := fun j => cell_of_row w5 p j _ _ _ q1
    have hf5 := frozen_row q1
    clear hS5 q1 q2 q3 hst5 ha0 ha1 hh0 hh1 hwn hlg hfi2 hrl
    go_wp2_with fail
    go_ret2
    have hg5 := grown_set (grown_set (grown_set (grown_set (World.grownBy.refl w5 (some p)) 7 (.int .i64 ((s.commits : Int) + 1))) 1 (.bool false)) 3 (.slice none 0 0)) 6 (.map none)
    have hrow5 := blk_set (blk_set (blk_set (blk_set Q1.out 7 (.int .i64 ((s.commits : Int) + 1))) 1 (.bool false)) 3 (.slice none 0 0)) 6 (.map none)
    have P := Q3.out.own Q1.out Q2.out hg5
    have hcomp : J.committed s = { S5 with commits := s.commits + 1, opn := false, changes := [], was := [] } := by
      rw [← HE5.out, ← HRC.out]; unfold J.committed; rw [ha]
    have hOk : Ok (J.committed s) := ok_committed H4.out HO.out (area_eq1 ha) HRC.out HFIT.out HLC.out
    rw [HRES.out]
    refine ⟨rfl, M5, ?_, ?_⟩
    · rw [hcomp] at hOk ⊢
      exact ⟨bn5, none, .slice none 0 0, wr5, x0, x1, x2, x3, y0, y1, y2, y3, hrow5, Q2.out, ⟨P.now, P.mbn, rfl, ChRow.nil_ _ _ _, fun k h => (by cases h), P.wrs, P.f0, P.f1, P.f2, P.f3, P.e0, P.e1, P.e2, P.e3, P.dd⟩, hOk⟩
    · exact Step.uncap ((Step.of_below HB2.out.drew.drew).trans (HT5.out.trans (Step.of_grown hg5 (fun k e _ => by cases e; exact Q2.out))))
end Go.Proofs.YtjbepnkchoaipaaGreat
