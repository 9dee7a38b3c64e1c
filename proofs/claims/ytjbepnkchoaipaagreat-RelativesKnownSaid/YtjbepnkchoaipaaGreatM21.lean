import Derived.Test.YtjbepnkchoaipaaGreatM20
import Derived.Test.YtjbepnkchoaipaaGreatM14
import Derived.Test.YtjbepnkchoaipaaGreatM00
import Derived.Test.YtjbepnkchoaipaaGreatM13
set_option linter.unusedVariables false
set_option linter.unusedSimpArgs false
/- Compacting: what a store owes behind it. -/
namespace Go.Proofs.YtjbepnkchoaipaaGreat
open Go.RowKit Go.Lib Go.Maps Go.WideMaps
set_option maxRecDepth 100000
/-- The bytes of the record that compacting writes are few. -/
structure CSmall (s : J.St) (m : List (J.B × J.B)) : Prop where
  enc : (J.encs (J.values m)).length ≤ 40000000
  com : s.commits < 4611686018427387904
  key : ∀ p ∈ m, p.1.length ≤ maxLen
theorem own_slice_len {w : World} {base n size : Nat} {e : TypeId} {v : Value} {xs : List Value} (h : w.ownsRow base e size v n xs) : ∃ A c, v = .slice A n c := by
  rcases h.2 with ⟨rfl, h0⟩ | ⟨g', cap, cur, rfl, _⟩
  · exact ⟨none, 0, by rw [h0]⟩
  · exact ⟨_, _, rfl⟩
theorem compact_bad {s : J.St} {m : List (J.B × J.B)} (h : ¬ ((J.record 1 s.commits (J.values m)).length ≤ 4194304 ∧ s.gen ≠ J.latest ∧ (J.record 1 s.commits (J.values m)).length + 24 ≤ 16777216 - s.logged)) : J.compact s m = (s, 9) := by
  have : J.compactOk s m = false := decide_eq_false h
  unfold J.compact; rw [this]; rfl
theorem compact_good {s : J.St} {m : List (J.B × J.B)} (h : (J.record 1 s.commits (J.values m)).length ≤ 4194304 ∧ s.gen ≠ J.latest ∧ (J.record 1 s.commits (J.values m)).length + 24 ≤ 16777216 - s.logged) : J.compact s m = (J.compacted s m, 0) := by
  have : J.compactOk s m = true := decide_eq_true h
  unfold J.compact; rw [this]; rfl
theorem csz5 (s : J.St) (o : Nat) (ha0 : s.disk.a0.length ≤ 8388608) (ha1 : s.disk.a1.length ≤ 8388608) (hh0 : s.disk.h0.length ≤ 8388608) (hh1 : s.disk.h1.length ≤ 8388608) :
    (J.write s ⟨1, o, []⟩).disk.a0.length ≤ 8388608 ∧ (J.write s ⟨1, o, []⟩).disk.a1.length ≤ 8388608 ∧ (J.write s ⟨1, o, []⟩).disk.h0.length ≤ 8388608 ∧ (J.write s ⟨1, o, []⟩).disk.h1.length ≤ 8388608 := by
  have e : (J.write s ⟨1, o, []⟩).disk = s.disk.setArea o [] := rfl
  rw [e, J.set_h0, J.set_h1]
  exact ⟨J.set_a0 _ _ _ _ ha0 (Nat.zero_le _), J.set_a1 _ _ _ _ ha1 (Nat.zero_le _), hh0, hh1⟩
theorem csz6 (s : J.St) (o : Nat) (rc : List UInt8) (hd : s.disk.area o = []) (ha0 : s.disk.a0.length ≤ 8388608) (ha1 : s.disk.a1.length ≤ 8388608) (hh0 : s.disk.h0.length ≤ 8388608) (hh1 : s.disk.h1.length ≤ 8388608) (hr : rc.length ≤ 8388608) :
    (J.write s ⟨0, o, rc⟩).disk.a0.length ≤ 8388608 ∧ (J.write s ⟨0, o, rc⟩).disk.a1.length ≤ 8388608 ∧ (J.write s ⟨0, o, rc⟩).disk.h0.length ≤ 8388608 ∧ (J.write s ⟨0, o, rc⟩).disk.h1.length ≤ 8388608 := by
  have e : (J.write s ⟨0, o, rc⟩).disk = s.disk.setArea o (s.disk.area o ++ rc.take rc.length) := rfl
  rw [e, hd, J.set_h0, J.set_h1, List.nil_append, List.take_length]
  exact ⟨J.set_a0 _ _ _ _ ha0 hr, J.set_a1 _ _ _ _ ha1 hr, hh0, hh1⟩
theorem csz8 (s : J.St) (o : Nat) (l : List UInt8) (hl : l.length = 24) (ha0 : s.disk.a0.length ≤ 8388608) (ha1 : s.disk.a1.length ≤ 8388608) (hh0 : s.disk.h0.length ≤ 8388608) (hh1 : s.disk.h1.length ≤ 8388608) :
    (J.write s ⟨2, o, l⟩).disk.a0.length ≤ 8388608 ∧ (J.write s ⟨2, o, l⟩).disk.a1.length ≤ 8388608 ∧ (J.write s ⟨2, o, l⟩).disk.h0.length ≤ 8388608 ∧ (J.write s ⟨2, o, l⟩).disk.h1.length ≤ 8388608 := by
  have e : (J.write s ⟨2, o, l⟩).disk = s.disk.setHead o (l.take l.length ++ (s.disk.head o).drop l.length) := rfl
  rw [e, J.head_a0, J.head_a1, List.take_length, hl]
  refine ⟨ha0, ha1, ?_⟩
  unfold J.Img.setHead J.Img.head
  by_cases h : o = 0
  · simp only [h, if_true]
    exact ⟨by rw [List.length_append, List.length_drop]; omega, hh1⟩
  · simp only [h, if_false]
    exact ⟨hh0, by rw [List.length_append, List.length_drop]; omega⟩
theorem ok_aux {s s' : J.St} {R : Nat} (o : Ok s) (hR : R ≤ 4194304) (hR13 : 13 ≤ R) (hl : R + 24 ≤ 16777216 - s.logged) (hlog : s'.logged = s.logged + R + 24) (hwr : s'.writes.length = s.writes.length + 3) (e1 : s'.commits = s.commits) (e2 : s'.now = s.now) (e3 : s'.changes = s.changes) (e4 : s'.was = s.was) :
    s'.commits ≤ 4294967296 + s'.logged ∧ s'.logged ≤ 16777216 ∧ s'.writes.length ≤ s'.logged ∧ (J.encs (J.values s'.now)).length ≤ 8388608 + s'.logged + (J.encs s'.changes).length ∧ (J.encs (J.values s'.was)).length ≤ 8388608 + s'.logged := by
  have hlg := o.logged
  have hcm := o.commits
  have hwn := o.writes
  have hnow := o.now
  have hwas := o.was
  rw [e1, e2, e3, e4, hwr, hlog]
  generalize (J.encs (J.values s.now)).length = A at *
  generalize (J.encs (J.values s.was)).length = B at *
  generalize (J.encs s.changes).length = C at *
  omega
section
variable (s : J.St) (m : List (J.B × J.B))
theorem comp_size : (J.compacted s m).size = s.size := rfl
theorem comp_com : (J.compacted s m).commits = s.commits := rfl
theorem comp_gen : (J.compacted s m).gen = s.gen + 1 := rfl
theorem comp_area : (J.compacted s m).area = 1 - s.area := rfl
theorem comp_side : (J.compacted s m).side = 1 - s.side := rfl
theorem comp_chs : (J.compacted s m).changes = s.changes := rfl
theorem comp_opn : (J.compacted s m).opn = s.opn := rfl
theorem comp_now : (J.compacted s m).now = s.now := rfl
theorem comp_was : (J.compacted s m).was = s.was := rfl
theorem comp_log : (J.compacted s m).logged = s.logged + (J.record 1 s.commits (J.values m)).length + 24 := by
  have : (J.compacted s m).logged = s.logged + 0 + (J.record 1 s.commits (J.values m)).length + (J.part (s.gen + 1) (1 - s.area) ++ J.part (s.gen + 1) (1 - s.area)).length := rfl
  rw [this, J.part2_len]; rfl
theorem comp_wr : (J.compacted s m).writes.length = s.writes.length + 3 := by
  unfold J.compacted; dsimp only; rw [J.write_writes]; dsimp only; rw [J.write_writes, J.write_writes]; simp
theorem comp_disk (o : Ok s) (hR : (J.record 1 s.commits (J.values m)).length ≤ 4194304) : (J.compacted s m).disk.a0.length ≤ 8388608 ∧ (J.compacted s m).disk.a1.length ≤ 8388608 ∧ (J.compacted s m).disk.h0.length ≤ 8388608 ∧ (J.compacted s m).disk.h1.length ≤ 8388608 := by
  have z5 := csz5 s (1 - s.area) o.a0 o.a1 o.h0 o.h1
  have z6 := csz6 (J.write s ⟨1, 1 - s.area, []⟩) (1 - s.area) (J.record 1 s.commits (J.values m)) (J.area_set _ _ _) z5.1 z5.2.1 z5.2.2.1 z5.2.2.2 (Nat.le_trans hR (by decide))
  exact csz8 { J.write (J.write s ⟨1, 1 - s.area, []⟩) ⟨0, 1 - s.area, J.record 1 s.commits (J.values m)⟩ with side := 1 - s.side } (1 - s.side) (J.part (s.gen + 1) (1 - s.area) ++ J.part (s.gen + 1) (1 - s.area)) (J.part2_len _ _) z6.1 z6.2.1 z6.2.2.1 z6.2.2.2
end
theorem ok_compacted {s : J.St} {m : List (J.B × J.B)} (o : Ok s) (hR : (J.record 1 s.commits (J.values m)).length ≤ 4194304) (hg : s.gen ≠ J.latest) (hl : (J.record 1 s.commits (J.values m)).length + 24 ≤ 16777216 - s.logged) : Ok (J.compacted s m) := by
  have hgen : s.gen + 1 ≤ J.latest := Nat.lt_of_le_of_ne o.gen hg
  have z8 := comp_disk s m o hR
  obtain ⟨f1, f2, f3, f4, f5⟩ := ok_aux (s' := J.compacted s m) o hR (by rw [J.record_len]; exact Nat.le_add_right _ _) hl (comp_log s m) (comp_wr s m) (comp_com s m) (comp_now s m) (comp_chs s m) (comp_was s m)
  generalize hC : J.compacted s m = C at *
  have e1 : C.size = s.size := hC ▸ comp_size s m
  have e2 : C.gen = s.gen + 1 := hC ▸ comp_gen s m
  have e3 : C.area = 1 - s.area := hC ▸ comp_area s m
  have e4 : C.side = 1 - s.side := hC ▸ comp_side s m
  have e5 : C.changes = s.changes := hC ▸ comp_chs s m
  have e6 : C.opn = s.opn := hC ▸ comp_opn s m
  exact ⟨by rw [e1]; exact o.size, f1, by rw [e2]; exact hgen, by rw [e3]; exact Nat.sub_le _ _, by rw [e4]; exact Nat.sub_le _ _, f2, f3, by rw [e1, e5]; exact o.chs, by rw [e1, e5, e6]; exact o.encs, by rw [e5, e6]; exact o.clo, z8.1, z8.2.1, z8.2.2.1, z8.2.2.2, f4, f5⟩
end Go.Proofs.YtjbepnkchoaipaaGreat
/- Contract: compact. -/
namespace Go.Proofs.YtjbepnkchoaipaaGreat
open Go.RowKit Go.Lib Go.Maps Go.WideMaps
set_option maxRecDepth 100000
set_option maxHeartbeats 8000000 in
theorem compact_any (p b : Nat) (M : Nat → Prop) (s : J.St) (m : List (J.B × J.B)) (w : World) (h : StoreR w p M s) (hm : MapR w M b m) (hs : CSmall s m) :
    Calls Tryz.prog 93 #[.pointer (some ⟨p, 0, none⟩), .map (some b)] w fun e w' => e = .returned (.int .i64 (J.compact s m).2) ∧ ∃ M', StoreR w' p M' (J.compact s m).1 ∧ Step M M' w w' := by
  have hml : m.length ≤ 30000000 := by have := hs.enc; have h2 := J.chs_len (J.values m); rw [show (J.values m).length = m.length by simp [J.values]] at h2; omega
  have HV := Lib.hid (fun k => values_any b m M (w.drewN k) hm hml hs.key)
  have HS := Lib.hid hs
  have HH := Lib.hid h
  obtain ⟨bn, bw, ch, wr, b0, b1, b2, b3, d0, d1, d2, d3, h1, h2, h3, h4⟩ := h
  have H1 := Lib.hid h1
  have hc := fun j => cell_of_row w p j _ _ _ h1
  have HG := Lib.hid h4
  clear h1 h2 h3 h4 hm hs
  go_enter Tryz.func93, Tryz.ntmps93
  go_upto_region 1 with fail
  clear hc
  refine wp_region_plan 7 [(0, false), (1, false), (2, false), (3, false), (4, false), (5, true), (6, true)] (fun w' => w'.heap[p]? = some (.cells (stCells s bn bw ch wr b0 b1 b2 b3 d0 d1 d2 d3) 83 (0, 0))) (by kernel_rfl) (by kernel_rfl) (fun c a d v w h => by cases d <;> exact h) H1.out ?_
  repeat
    refine wpPlan_read (v := ?_) (by rfl) (by rfl) (fun w' hS => ?_) (fun K hK => ?_)
    rotate_left
    · have hcp := fun j => cell_of_row w' p j _ _ _ hS
      clear hS
      go_simp
      try with_reducible rfl
    go_simp
    refine hK _ ?_
    clear hK K
  refine wpPlan_write (by rfl) (fun K hK => ?_)
  go_simp
  refine (HV.out 1).mono ?_
  rintro e w1 ⟨A1, n1, c1, rfl, hch, hb1⟩
  have hb1 : Below w.heap.size w w1 := ⟨hb1.os, hb1.tape, hb1.output, hb1.size, hb1.block⟩
  have HC1 := Lib.hid hch
  have HB1 := Lib.hid hb1
  have HR1 := Lib.hid ((hb1.block p (Array.getElem?_eq_some_iff.1 H1.out).1).trans H1.out)
  have hn1 : n1 ≤ 30000000 := by have := hch.1; simp [J.values] at this; omega
  clear hch hb1
  refine hK.out _ _ HR1.out ?_
  clear hK K
  refine wpPlan_write (by rfl) (fun K hK => ?_)
  go_simp
  have hrec := record_any 1 s.commits A1 n1 c1 (J.values m) w1 NoM HC1.out (by omega) HS.out.com (by have := HS.out.enc; omega) (by omega)
  refine hrec.mono ?_
  rintro e w2 ⟨v2, rfl, hown2, hb2⟩
  clear hrec
  obtain ⟨A2, c2, rfl⟩ := own_slice_len hown2
  have hb02 : Below w.heap.size w w2 := ⟨hb2.os.trans HB1.out.os, hb2.tape.trans HB1.out.tape, hb2.output.trans HB1.out.output, Nat.le_trans HB1.out.size hb2.size, fun k hk => (hb2.block k (Nat.lt_of_lt_of_le hk HB1.out.size)).trans (HB1.out.block k hk)⟩
  have HB2 := Lib.hid hb02
  have HO2 := Lib.hid (show w2.ownsRow w.heap.size _ _ _ _ _ from own_base hown2 HB1.out.size)
  have HR2 := Lib.hid ((hb2.block p (Array.getElem?_eq_some_iff.1 HR1.out).1).trans HR1.out)
  clear hown2 hb2 hb02
  refine hK.out _ _ HR2.out ?_
  clear hK K
  show wpList _ _ _ _ _ _
  have hc := fun j => cell_of_row w2 p j _ _ _ HR2.out
  have hlog := HG.out.logged
  have HRes := Lib.hid (fun h => compact_bad (s := s) (m := m) h)
  have HRes2 := Lib.hid (fun h => compact_good (s := s) (m := m) h)
  have HRL := Lib.hid (J.record_len 1 s.commits (J.values m))
  have HO3 := Lib.hid (own_sl (M := fun k => k < w.heap.size) HO2.out (fun k h => h))
  generalize hRR : J.record 1 s.commits (J.values m) = rc at HO3 HRes HRes2 HRL HO2 ⊢
  have HRC := Lib.hid hRR
  clear hRR
  by_cases hR1 : 4194304 < rc.length
  · have hR1i : (4194304 : Int) < (rc.length : Int) := by omega
    have hres := HRes.out (fun h => by omega)
    have HX := Lib.hid hres
    clear hres hR1
    go_wp2_with fail
    go_ret
    rw [HX.out]
    exact ⟨rfl, M, HH.out.below HB2.out, Step.of_below HB2.out⟩
  have hR1i : ¬ (4194304 : Int) < (rc.length : Int) := by omega
  by_cases hR2 : s.gen = 4611686018427387904
  · have hR2i : (s.gen : Int) = 4611686018427387904 := by omega
    have hres := HRes.out (fun h => h.2.1 hR2)
    have HX := Lib.hid hres
    clear hres hR1 hR2
    go_wp2_with fail
    go_ret
    rw [HX.out]
    exact ⟨rfl, M, HH.out.below HB2.out, Step.of_below HB2.out⟩
  have hR2i : ¬ (s.gen : Int) = 4611686018427387904 := by omega
  have hwr1 : IntKind.i64.wrap ((rc.length : Int) + 24) = (rc.length : Int) + 24 := IntWalk.i64_in _ (by omega)
  have hwr2 : IntKind.i64.wrap (16777216 - (s.logged : Int)) = 16777216 - (s.logged : Int) := IntWalk.i64_in _ (by omega)
  by_cases hR3 : 16777216 - s.logged < rc.length + 24
  · have hR3i : (16777216 : Int) - (s.logged : Int) < (rc.length : Int) + 24 := by omega
    have hres := HRes.out (fun h => by omega)
    have HX := Lib.hid hres
    clear hres hR1 hR2 hR3
    go_wp2_with fail
    go_ret
    rw [HX.out]
    exact ⟨rfl, M, HH.out.below HB2.out, Step.of_below HB2.out⟩
  have hR3i : ¬ (16777216 : Int) - (s.logged : Int) < (rc.length : Int) + 24 := by omega
  have hgw : IntKind.u64.wrap ((s.gen : Int) + 1) = ((s.gen + 1 : Nat) : Int) := by have := HG.out.gen; unfold J.latest at this; rw [IntKind.wrap_u64]; omega
  have har : IntKind.i64.wrap (1 - (s.area : Int)) = ((1 - s.area : Nat) : Int) := by have := HG.out.area; rw [IntWalk.i64_in _ (by omega)]; omega
  have haru : IntKind.u64.wrap ((1 - s.area : Nat) : Int) = ((1 - s.area : Nat) : Int) := by rw [IntKind.wrap_u64]; omega
  have hgl : s.gen + 1 < 18446744073709551616 := by have := HG.out.gen; unfold J.latest at this; omega
  have hres := HRes2.out ⟨by omega, hR2, by omega⟩
  have HX := Lib.hid hres
  have hrl4 : rc.length ≤ 4194304 := by omega
  have hrlg : s.logged + rc.length + 24 ≤ 16777216 := by omega
  have HL4 := Lib.hid hrl4
  have HLG := Lib.hid hrlg
  have HGL := Lib.hid hgl
  have HGN := Lib.hid hR2
  clear hres hR1 hR2 hR3 hlog hrl4 hrlg hgl
  go_wp2_with fail
  refine (put_any (.slice none 0 0) 0 [] (s.gen + 1) 8 w2.heap.size w2 (World.ownsRow_nil _ _ _ _) (Nat.le_refl _) HGL.out (by omega) (by omega)).mono ?_
  rintro e w3 ⟨v3, rfl, hown3, hg3, hl3⟩
  obtain ⟨A3, c3, rfl⟩ := own_slice_len hown3
  have HO5 := Lib.hid hown3
  have HG3 := Lib.hid hg3
  clear hown3 hg3 hl3
  go_wp2_with fail
  refine (put_any (.slice A3 (0 + 8) c3) (0 + 8) ([] ++ J.leB (s.gen + 1) 8) (1 - s.area) 4 w2.heap.size w3 HO5.out HG3.out.size (by omega) (by omega) (by omega)).mono ?_
  rintro e w4 ⟨v4, rfl, hown4, hg4, hl4⟩
  have hb23 : Below w2.heap.size w2 w3 := (Below.refl _ w2).grown HG3.out (Nat.le_refl _) (fun k e => by cases e)
  have hb24 : Below w2.heap.size w2 w4 := hb23.grown hg4 hb23.size (fun k e => (HO5.out.lt k e).1)
  have hb04 : Below w.heap.size w w4 := ⟨hb24.os.trans HB2.out.os, hb24.tape.trans HB2.out.tape, hb24.output.trans HB2.out.output, Nat.le_trans HB2.out.size hb24.size, fun k hk => (hb24.block k (Nat.lt_of_lt_of_le hk HB2.out.size)).trans (HB2.out.block k hk)⟩
  have hq4 : StoreQ w4 p (fun k => M k ∧ k < w.heap.size) s := HH.out.q.1.cap.below hb04
  have hs4 : Sl w4 (fun k => M k ∧ k < w.heap.size) (.slice A2 rc.length c2) rc := (HO3.out.weak (fun k h => h.2)).step (Step.of_below hb24)
  have hp4 : Sl w4 (fun k => M k ∧ k < w.heap.size) v4 (J.part (s.gen + 1) (1 - s.area)) := own_sl hown4 (fun k h => Nat.lt_of_lt_of_le h.2 HB2.out.size)
  obtain ⟨A4, c4, rfl⟩ := hp4.slice_
  have HB4 := Lib.hid hb04
  have HQ4 := Lib.hid hq4
  have HS4 := Lib.hid hs4
  have HP4 := Lib.hid hp4
  clear hown4 hg4 hl4 hb23 hb24 hb04 hq4 hs4 hp4 hc
  have hok := HG.out
  have ha0 := hok.a0
  have ha1 := hok.a1
  have hh0 := hok.h0
  have hh1 := hok.h1
  have harl := hok.area
  have hsd := hok.side
  have hwn := hok.writes
  have hlg := hok.logged
  have hpl : (J.part (s.gen + 1) (1 - s.area)).length = 12 := J.part_len _ _
  clear hok
  go_wp2_with fail
  refine (write_any p _ s 1 (1 - s.area) (.slice none 0 0) [] w4 HQ4.out (by omega) (by omega) Sl.nil_ (by simp) (by simp; omega) (by omega) (fun h => absurd rfl h) (by omega) (by omega) (by omega) (by omega)).mono ?_
  rintro e w5 ⟨⟨r5, rfl⟩, M5, hq5, hst5⟩
  have HQ5 := Lib.hid hq5
  have HT5 := Lib.hid hst5
  have HS5 := Lib.hid (HS4.out.step hst5)
  have HP5 := Lib.hid (HP4.out.step hst5)
  clear hq5 hst5
  have z5 := csz5 s (1 - s.area) HG.out.a0 HG.out.a1 HG.out.h0 HG.out.h1
  have hl5 : (J.write s ⟨1, 1 - s.area, []⟩).logged = s.logged := Nat.add_zero _
  have hw5 : (J.write s ⟨1, 1 - s.area, []⟩).writes.length = s.writes.length + 1 := by rw [J.write_writes]; simp
  have HZ5 := Lib.hid z5
  have hd5 : J.Img.area (J.write s ⟨1, 1 - s.area, []⟩).disk (1 - s.area) = [] := J.area_set _ _ _
  have hsi5 : (J.write s ⟨1, 1 - s.area, []⟩).side = s.side := rfl
  generalize hS5 : J.write s ⟨1, 1 - s.area, []⟩ = S5 at HQ5 hl5 hw5 HZ5 hd5 hsi5
  have HE5 := Lib.hid hS5
  have HD5 := Lib.hid hd5
  clear hS5 z5 hd5
  go_wp2_with fail
  refine (write_any p M5 S5 0 (1 - s.area) (.slice A2 rc.length c2) rc w5 HQ5.out (by omega) (by omega) HS5.out (by have := HL4.out; omega) (by have := HL4.out; omega) (by omega) (fun _ => by have := HRL.out; omega) (by have := HZ5.out.1; omega) (by have := HZ5.out.2.1; omega) (by have := HZ5.out.2.2.1; omega) (by have := HZ5.out.2.2.2; omega)).mono ?_
  rintro e w6 ⟨⟨r6, rfl⟩, M6, hq6, hst6⟩
  have HT6 := Lib.hid (HT5.out.trans hst6)
  have HP6 := Lib.hid (HP5.out.step hst6)
  have HZ6 := Lib.hid (csz6 S5 (1 - s.area) rc HD5.out HZ5.out.1 HZ5.out.2.1 HZ5.out.2.2.1 HZ5.out.2.2.2 (by have := HL4.out; omega))
  have hl6 : (J.write S5 ⟨0, 1 - s.area, rc⟩).logged = s.logged + rc.length := by show S5.logged + rc.length = _; rw [hl5]
  have hw6 : (J.write S5 ⟨0, 1 - s.area, rc⟩).writes.length = s.writes.length + 2 := by rw [J.write_writes, List.length_append, hw5]; rfl
  have hsi6 : (J.write S5 ⟨0, 1 - s.area, rc⟩).side = s.side := hsi5
  generalize hS6 : J.write S5 ⟨0, 1 - s.area, rc⟩ = S6 at hq6 HZ6 hl6 hw6 hsi6
  have HE6 := Lib.hid hS6
  obtain ⟨bn6, bw6, ch6, wr6, x0, x1, x2, x3, y0, y1, y2, y3, q1, q2, q3⟩ := hq6
  have Q1 := Lib.hid q1
  have Q2 := Lib.hid q2
  have Q3 := Lib.hid q3
  have hc6 := fun j => cell_of_row w6 p j _ _ _ q1
  have hf6 := frozen_row q1
  have hsw : IntKind.i64.wrap (1 - (s.side : Int)) = ((1 - s.side : Nat) : Int) := by rw [IntWalk.i64_in _ (by omega)]; omega
  clear hS6 hst6 q1 q2 q3 HQ5 HP5 HS5 HT5
  go_upto_region 10 with fail
  have hg7 := grown_set (World.grownBy.refl w6 (some p)) 10 (.int .i64 ((1 - s.side : Nat) : Int))
  have hrow7 := blk_set Q1.out 10 (.int .i64 ((1 - s.side : Nat) : Int))
  have hq7 : Parts (w6.setCell ⟨p, 10, none⟩ (.int .i64 ((1 - s.side : Nat) : Int))) M6 { S6 with side := 1 - s.side } bn6 bw6 ch6 wr6 x0 x1 x2 x3 y0 y1 y2 y3 := by
    have P := Q3.out.own Q1.out Q2.out hg7
    exact ⟨P.now, P.mbn, P.was, P.chs, P.mch, P.wrs, P.f0, P.f1, P.f2, P.f3, P.e0, P.e1, P.e2, P.e3, P.dd⟩
  have hst7 : Step M6 M6 w6 (w6.setCell ⟨p, 10, none⟩ (.int .i64 ((1 - s.side : Nat) : Int))) := Step.of_grown hg7 (fun k e _ => by cases e; exact Q2.out)
  generalize w6.setCell ⟨p, 10, none⟩ (.int .i64 ((1 - s.side : Nat) : Int)) = w7 at hrow7 hq7 hst7 hg7 ⊢
  have HR7 := Lib.hid (show w7.heap[p]? = some (.cells (stCells { S6 with side := 1 - s.side } bn6 bw6 ch6 wr6 x0 x1 x2 x3 y0 y1 y2 y3) 83 (0, 0)) from hrow7)
  have HQ7 := Lib.hid hq7
  have HT7 := Lib.hid (HT6.out.trans hst7)
  have HP7 := Lib.hid (HP6.out.step hst7)
  clear hrow7 hq7 hst7 hg7 hc6 hf6
  obtain ⟨A', c', eA, hc', hy⟩ := HP7.out.by
  injection eA with e1 e2 e3
  subst e1 e3
  rw [hpl] at hy hc'
  have HY := Lib.hid hy
  clear hy e2
  have hgw : w7.heap.size ≤ w7.heap.size := Nat.le_refl _
  refine wp_region_plan 10 [(0, false), (1, false), (2, false), (3, false), (4, false), (5, false), (6, false), (7, true), (8, true), (9, false)] (fun w' => w'.heap[p]? = some (.cells (stCells { S6 with side := 1 - s.side } bn6 bw6 ch6 wr6 x0 x1 x2 x3 y0 y1 y2 y3) 83 (0, 0))) (by kernel_rfl) (by kernel_rfl) (fun c a d v w h => by cases d <;> exact h) HR7.out ?_
  repeat
    refine wpPlan_read (v := ?_) (by rfl) (by rfl) (fun w' hS => ?_) (fun K hK => ?_)
    rotate_left
    · have hcp := fun j => cell_of_row w' p j _ _ _ hS
      clear hS
      go_simp
      try with_reducible rfl
    go_simp
    refine hK _ ?_
    clear hK K
  refine wpPlan_write (by rfl) (fun K hK => ?_)
  go_simp
  refine hK.out _ _ ((Below.heap_alloc w7.drew _ p (Array.getElem?_eq_some_iff.1 HR7.out).1).trans HR7.out) ?_
  clear hK K
  refine wpPlan_write (by rfl) (fun K hK => ?_)
  go_simp
  refine (concat2_any w7.drew.heap.size A4 A4 12 12 c4 c4 (J.part (s.gen + 1) (1 - s.area)) (J.part (s.gen + 1) (1 - s.area)) _ M6 M6 (by simp) (World.cell?_alloc_new _ _ _ _) (World.cell?_alloc_new _ _ _ _) (HY.out.step (Step.of_below ((Below.refl _ w7).drew.alloc (Nat.le_refl _) _))) (HY.out.step (Step.of_below ((Below.refl _ w7).drew.alloc (Nat.le_refl _) _))) (by omega) (by omega)).mono ?_
  rintro e w8 ⟨v8, rfl, hown8, hb8⟩
  obtain ⟨A8, c8, rfl⟩ := own_slice_len hown8
  have hB8 : Below w7.heap.size w7 w8 := by
    have hA : Below w7.heap.size w7 (w7.drew.alloc (.cells #[.slice A4 12 c4, .slice A4 12 c4] 37)) := (Below.refl _ w7).drew.alloc (Nat.le_refl _) _
    exact ⟨hb8.os.trans hA.os, hb8.tape.trans hA.tape, hb8.output.trans hA.output, Nat.le_trans hA.size hb8.size, fun k hk => (hb8.block k (Nat.lt_of_lt_of_le hk hA.size)).trans (hA.block k hk)⟩
  have hs8 : Sl w8 (fun k => M6 k ∧ k < w7.heap.size) (.slice A8 (12 + 12) c8) (J.part (s.gen + 1) (1 - s.area) ++ J.part (s.gen + 1) (1 - s.area)) := own_sl hown8 (fun k h => by simp; omega)
  have hq8 : StoreQ w8 p (fun k => M6 k ∧ k < w7.heap.size) { S6 with side := 1 - s.side } := (StoreQ.cap ⟨bn6, bw6, ch6, wr6, x0, x1, x2, x3, y0, y1, y2, y3, HR7.out, Q2.out, HQ7.out⟩).below hB8
  have HR8 := Lib.hid ((hB8.block p (Array.getElem?_eq_some_iff.1 HR7.out).1).trans HR7.out)
  have HS8 := Lib.hid hs8
  have HQ8 := Lib.hid hq8
  have HB8 := Lib.hid hB8
  clear hown8 hb8 hB8 hs8 hq8
  refine hK.out _ _ HR8.out ?_
  clear hK K
  repeat
    refine wpPlan_read (v := ?_) (by rfl) (by rfl) (fun w' hS => ?_) (fun K hK => ?_)
    rotate_left
    · clear hS
      go_simp
      try with_reducible rfl
    go_simp
    refine hK _ ?_
    clear hK K
  show wpList _ _ _ _ _ _
  go_wp2_with fail
  refine (write_any p _ { S6 with side := 1 - s.side } 2 (1 - s.side) (.slice A8 (12 + 12) c8) (J.part (s.gen + 1) (1 - s.area) ++ J.part (s.gen + 1) (1 - s.area)) w8 HQ8.out (by omega) (by omega) HS8.out (by rw [J.part2_len]; omega) (by rw [J.part2_len]; show S6.logged + 24 ≤ _; have := HL4.out; omega) (by show S6.writes.length + 1 ≤ _; omega) (fun _ => by rw [J.part2_len]; omega) (by have := HZ6.out.1; show S6.disk.a0.length ≤ _; omega) (by have := HZ6.out.2.1; show S6.disk.a1.length ≤ _; omega) (by have := HZ6.out.2.2.1; show S6.disk.h0.length ≤ _; omega) (by have := HZ6.out.2.2.2; show S6.disk.h1.length ≤ _; omega)).mono ?_
  rintro e w9 ⟨⟨r9, rfl⟩, M9, hq9, hst9⟩
  obtain ⟨bn9, bw9, ch9, wr9, z0, z1, z2, z3, t0, t1, t2, t3, q1, q2, q3⟩ := hq9
  have R1 := Lib.hid q1
  have R2 := Lib.hid q2
  have R3 := Lib.hid q3
  have HT9 := Lib.hid hst9
  have hc9 := fun j => cell_of_row w9 p j _ _ _ q1
  have hf9 := frozen_row q1
  clear q1 q2 q3 hst9
  go_wp2_with fail
  go_ret
  have hg9 := grown_set (grown_set (World.grownBy.refl w9 (some p)) 8 (.int .u64 ((s.gen : Int) + 1))) 9 (.int .i64 ((1 - s.area : Nat) : Int))
  have hrow9 := blk_set (blk_set R1.out 8 (.int .u64 ((s.gen : Int) + 1))) 9 (.int .i64 ((1 - s.area : Nat) : Int))
  have P := R3.out.own R1.out R2.out hg9
  have hcomp : J.compacted s m = { J.write { S6 with side := 1 - s.side } ⟨2, 1 - s.side, J.part (s.gen + 1) (1 - s.area) ++ J.part (s.gen + 1) (1 - s.area)⟩ with gen := s.gen + 1, area := 1 - s.area } := by
    rw [← HE6.out, ← HE5.out, ← HRC.out]; rfl
  have hOk : Ok (J.compacted s m) := ok_compacted HG.out (by rw [HRC.out]; exact HL4.out) HGN.out (by rw [HRC.out]; have := HLG.out; omega)
  rw [HX.out]
  refine ⟨rfl, M9, ?_, ?_⟩
  · rw [hcomp] at hOk ⊢
    exact ⟨bn9, bw9, ch9, wr9, z0, z1, z2, z3, t0, t1, t2, t3, hrow9, R2.out, ⟨P.now, P.mbn, P.was, P.chs, P.mch, P.wrs, P.f0, P.f1, P.f2, P.f3, P.e0, P.e1, P.e2, P.e3, P.dd⟩, hOk⟩
  · have h1 : Step (fun k => M k ∧ k < w.heap.size) M6 w w7 := (Step.of_below HB4.out).trans HT7.out
    have h2 : Step M6 M9 w7 (((w9.setCell ⟨p, 8, none⟩ (.int .u64 ((s.gen : Int) + 1))).setCell ⟨p, 9, none⟩ (.int .i64 ((1 - s.area : Nat) : Int)))) := Step.uncap ((Step.of_below HB8.out).trans (HT9.out.trans (Step.of_grown hg9 (fun k e _ => by cases e; exact R2.out))))
    exact (h1.trans h2).uncap
end Go.Proofs.YtjbepnkchoaipaaGreat
/- Contracts: Image, New. -/
namespace Go.Proofs.YtjbepnkchoaipaaGreat
open Go.RowKit Go.Lib Go.Maps Go.WideMaps
set_option maxRecDepth 100000
theorem Area.sl {w : World} {M : Nat → Prop} {v : Value} {l : List UInt8} (h : Area w M v l) : Sl w NoM v l := by
  rcases h with ⟨h, _⟩ | h
  · have hl : l.length = l.length := rfl
    exact own_sl h (fun k h => h.elim)
  · exact h.sl.weak (fun k h => h.elim)
theorem area_len {w : World} {M : Nat → Prop} {v : Value} {l : List UInt8} (h : Area w M v l) : ∃ A c, v = .slice A l.length c := by
  rcases h with ⟨h, _⟩ | h
  · exact own_slice_len h
  · obtain ⟨A, e⟩ := h.slice_; exact ⟨_, _, e⟩
theorem ok_new : Ok J.new :=
  ⟨by decide, by decide, by decide, by decide, by decide, by decide, by decide, by decide, (fun h => by cases h), (fun _ => rfl), by decide, by decide, by decide, by decide, by decide, by decide⟩
set_option maxHeartbeats 8000000 in
theorem new_any (w : World) :
    Calls Tryz.prog 8 #[] w fun e w' => ∃ p M, e = .returned (.pointer (some ⟨p, 0, none⟩)) ∧ StoreR w' p M J.new ∧ (∀ k, M k → w.heap.size ≤ k) ∧ Below w.heap.size w w' := by
  have hmm := @run_makeMap Tryz.prog
  go_enter Tryz.func8, Tryz.ntmps8
  go_wp2_with fail
  go_ret
  refine ⟨w.heap.size + 1, fun k => w.heap.size ≤ k, rfl, ⟨w.heap.size, none, .slice none 0 0, .slice none 0 0, .slice none 0 0, .slice none 0 0, .slice none 0 0, .slice none 0 0, .slice none 0 0, .slice none 0 0, .slice none 0 0, .slice none 0 0, ?_, by show _ ≤ _; omega, ⟨?_, Nat.le_refl _, rfl, ChRow.nil_ _ _ _, fun k h => (by cases h), ⟨[], rfl, World.ownsRow_nil _ _ _ _, fun k h => (by cases h), fun i h => absurd h (by simp [J.new])⟩, Slc.nil_, Slc.nil_, Slc.nil_, Slc.nil_, Sl.nil_, Sl.nil_, .inr Slc.nil_, .inr Slc.nil_, fun k h => (by cases h)⟩, ok_new⟩, fun k h => h, ((Below.refl _ w).alloc (Nat.le_refl _) _).alloc (by simp) _⟩
  · have := heap_alloc_new (w.alloc (.map #[] 0)) (.cells (stCells J.new w.heap.size none (.slice none 0 0) (.slice none 0 0) (.slice none 0 0) (.slice none 0 0) (.slice none 0 0) (.slice none 0 0) (.slice none 0 0) (.slice none 0 0) (.slice none 0 0) (.slice none 0 0)) 83)
    rw [show (w.alloc (.map #[] 0)).heap.size = w.heap.size + 1 by simp] at this
    exact this
  · exact (MapR.made w _).step (Step.of_below ((Below.refl _ (w.alloc (.map #[] 0))).alloc (Nat.le_refl _) _)) (Below.heap_alloc _ _ _ (by simp))
end Go.Proofs.YtjbepnkchoaipaaGreat
/- Contracts: Compact, Commit. -/
namespace Go.Proofs.YtjbepnkchoaipaaGreat
open Go.RowKit Go.Lib Go.Maps Go.WideMaps
theorem commit_shut (p : Nat) (M : Nat → Prop) (s : J.St) (w : World) (h : StoreR w p M s) (ho : s.opn = false) :
    Calls Tryz.prog 70 #[.pointer (some ⟨p, 0, none⟩)] w fun e w' => e = .returned (.tuple #[.int .i64 0, .int .i64 6]) ∧ w = w' := by
  have H := Lib.hid (state_any p M s true w h)
  have HO := Lib.hid ho
  clear ho
  go_enter Tryz.func70, Tryz.ntmps70
  go_wp2_with fail
  refine (H.out).mono ?_
  rintro e w1 ⟨rfl, rfl⟩
  rw [HO.out]
  go_wp2
  go_ret2
  exact ⟨rfl, rfl⟩
theorem commit_spoilt (p : Nat) (M : Nat → Prop) (s : J.St) (w : World) (h : StoreR w p M s) (ho : s.opn = true) (hsp : s.spoilt = true) :
    Calls Tryz.prog 70 #[.pointer (some ⟨p, 0, none⟩)] w fun e w' => e = .returned (.tuple #[.int .i64 0, .int .i64 9]) ∧ w = w' := by
  have H := Lib.hid (state_any p M s true w h)
  have HO := Lib.hid ho
  obtain ⟨bn, bw, ch, wr, b0, b1, b2, b3, d0, d1, d2, d3, h1, h2, h3, h4⟩ := h
  have hc := fun j => cell_of_row w p j _ _ _ h1
  rw [hsp] at hc
  clear ho h1 h2 h3 h4 hsp
  go_enter Tryz.func70, Tryz.ntmps70
  go_wp2_with fail
  refine (H.out).mono ?_
  rintro e w1 ⟨rfl, rfl⟩
  rw [HO.out]
  go_wp2
  go_ret2
  exact ⟨rfl, rfl⟩
end Go.Proofs.YtjbepnkchoaipaaGreat
