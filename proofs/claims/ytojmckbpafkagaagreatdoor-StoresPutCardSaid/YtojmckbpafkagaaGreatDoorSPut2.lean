/- Contract: stores.Put at a place that is possible. -/
import Derived.Test.YtojmckbpafkagaaGreatDoorSPut
set_option linter.unusedVariables false
set_option linter.unusedSimpArgs false
namespace Go.Proofs.YtojmckbpafkagaaGreatDoor
open Go.RowKit Go.Lib Go.Maps
set_option maxRecDepth 100000
theorem splice_all (cur cs : List Value) (h : cs.length = cur.length) : splice cur 0 cs = cs := by simp [splice, h]
theorem splice_u8s (l bl : List UInt8) (i k : Nat) (h : bl.length = k) : splice (u8s l) i (u8s bl) = u8s (l.take i ++ bl ++ l.drop (i + k)) := by
  subst h
  simp [splice, u8s, List.map_take, List.map_drop]
theorem Tryz.infoU8 : (Tryz.prog.info? 5).map (fun i => (i.zero, i.size, i.bytes)) = some (some (.int .u8 0), 1, 1) := by kernel_rfl
set_option maxHeartbeats 2000000 in
theorem put_ok (A : Option Addr) (n c i k : Nat) (l : List UInt8) (B : Option Addr) (cb : Nat) (bl : List UInt8) (w : World) (hn : n ≤ 1000000) (hik : i + k ≤ n) (h : By w NoM A n l) (hb : By w NoM B k bl) :
    Calls Tryz.prog 10 #[.slice A n c, .agg #[.int .i64 (i : Nat), .int .i64 (k : Nat)], .slice B k cb] w fun e w' => ∃ g, e = .returned (.tuple #[.slice (some ⟨g, 0, none⟩) n n, .int .i64 0]) ∧ w.heap.size ≤ g ∧ w'.heap[g]? = some (.cells (u8s (l.take i ++ bl ++ l.drop (i + k))).toArray 5 (0, 0)) ∧ Below w.heap.size w w' := by
  have hwi : wi n (i : Nat) (k : Nat) = 0 := by unfold wi; rw [if_neg (by omega), if_neg (by omega)]
  have hw := fun W => within_any A n c (i : Nat) (k : Nat) W hn
  rw [hwi] at hw
  have HW := Lib.hid hw
  have hbb : Below w.heap.size w (w.alloc (.cells #[.int .i64 (i : Nat), .int .i64 (k : Nat)] 23)) := (Below.refl _ w).alloc (Nat.le_refl _) _
  have HBB := Lib.hid hbb
  have HN := Lib.hid hn
  have HIK := Lib.hid hik
  have HL := Lib.hid h
  have HBL := Lib.hid hb
  have hkk : ((k : Int) != (k : Int)) = false := by simp
  have hn0 : (0 : Int) ≤ (n : Nat) := by omega
  clear hw hwi hbb h hb hn hik
  go_enter Tryz.func10, Tryz.ntmps10
  go_wp2_with fail
  refine (HW.out _).mono ?_
  rintro e w1 ⟨rfl, hb1⟩
  obtain ⟨c0, c1⟩ := cells_place _ _ w w1 hb1
  have HX := Lib.hid hb1
  have hbs : w.heap.size + 1 ≤ w1.heap.size := by have := hb1.size; simpa using this
  have HB := Lib.hid (HBB.out.trans (hb1.mono HBB.out.size))
  clear hb1
  obtain ⟨i0, hi, hz0, hz1, hz2⟩ := info_parts Tryz.infoU8
  go_wp2_with (refine wpList_make_full w1 rfl (.tmp 22) (.tmp 22) 27 rfl w.heap.size 5 i0 (.int .u8 0) 1 Tryz.underlying27 hi hz0 hz1 .i64 .i64 (n : Int) (n : Int) n rfl rfl rfl rfl (by have := HN.out; rw [hz2]; omega) (by have := HN.out; unfold maxLen; omega) HB.out.size ?_)
  intro w2 hown hgr
  have hx2 : Below (w.alloc (.cells #[.int .i64 (i : Nat), .int .i64 (k : Nat)] 23)).heap.size (w.alloc (.cells #[.int .i64 (i : Nat), .int .i64 (k : Nat)] 23)) w2 := HX.out.grown hgr HX.out.size (fun j e => by cases e)
  have hb2 : Below w.heap.size w w2 := HB.out.grown hgr HB.out.size (fun j e => by cases e)
  rcases hown.2 with ⟨h0, _⟩ | ⟨g, cap, cur, he, hbase, hbk, hnc, hcm, hcs, htake⟩
  · cases h0
  injection he with e1 e2 e3
  injection e1 with e1
  injection e1 with e1 _ _
  subst e1; subst e3
  have hcl : cur.toList.length = n := by simpa using hcs
  obtain ⟨c2, c3⟩ := cells_place _ _ w w2 hx2
  have hl := (HL.out.below hb2)
  have hlen := HL.out.1
  have hpos : 0 < (u8s l).length → some (⟨w1.heap.size, 0, none⟩ : Addr) = some ⟨w1.heap.size, 0, none⟩ ∧ ∃ ad, A = some ad ∧ ∀ j v, (u8s l)[j]? = some v → w2.cell? (ad.add j) = some v := fun h0 => by
    rw [u8s_len, hlen] at h0
    obtain ⟨b, o, e, hb, _, hc⟩ := hl.2 h0
    refine ⟨rfl, ⟨b, o, none⟩, e, fun j v hv => ?_⟩
    have hj : j < l.length := by have := (List.getElem?_eq_some_iff.1 hv).1; rwa [u8s_len] at this
    rw [u8s_get l j hj] at hv
    injection hv with hv
    rw [add_mk, hc j hj, hv]
  have hbk' : w2.heap[w1.heap.size]? = some (.cells cur.toList.toArray 5 (0, 0)) := by simpa using hbk
  have HPOS := Lib.hid hpos
  have HBK := Lib.hid hbk'
  have HCL := Lib.hid hcl
  have HX2 := Lib.hid hx2
  have HLEN := Lib.hid hlen
  have HBS : Hid ((w.alloc (.cells #[.int .i64 (i : Nat), .int .i64 (k : Nat)] 23)).heap.size ≤ w1.heap.size) := Lib.hid (by simpa using hbs)
  clear hown hgr hbase hbk hnc hcm hcs htake hl hlen hpos hbk' hcl hx2 c0 c1
  go_wp2_with (refine wpList_copy_splice rfl (.tmp 24) (.tmp 25) 27 27 rfl 5 Tryz.underlying27 (by kernel_rfl) (some ⟨w1.heap.size, 0, none⟩) A n n n c rfl rfl w1.heap.size 0 cur.toList 5 HBK.out (u8s l) (by rw [u8s_len, HLEN.out]; simp) HPOS.out (by rw [u8s_len, HLEN.out, HCL.out]; omega) (u8s_one l) (w.alloc (.cells #[.int .i64 (i : Nat), .int .i64 (k : Nat)] 23)).heap.size (w.alloc (.cells #[.int .i64 (i : Nat), .int .i64 (k : Nat)] 23)) HX2.out HBS.out ?_)
  intro w3 hg3 hx3
  replace hx3 : Below (w.alloc (.cells #[.int .i64 (i : Nat), .int .i64 (k : Nat)] 23)).heap.size (w.alloc (.cells #[.int .i64 (i : Nat), .int .i64 (k : Nat)] 23)) w3 := by rw [World.size_alloc]; exact hx3
  have hg3' := hg3.out
  rw [splice_all _ _ (by rw [u8s_len, HLEN.out, HCL.out])] at hg3'
  obtain ⟨d2, d3⟩ := cells_place _ _ w w3 hx3
  have HG3 := Lib.hid hg3'
  have HX3 := Lib.hid hx3
  have hb3 : Below w.heap.size w w3 := HBB.out.trans (hx3.mono HBB.out.size)
  have hbl := HBL.out.below hb3
  have hbll := HBL.out.1
  have HBLL := Lib.hid hbll
  have HBY := Lib.hid hbl
  clear hg3 hg3' hx3 hb3 hbl hbll c2 c3 HPOS HBK
  go_wp2_with (refine wpList_from rfl (.tmp 27) (.tmp 29) rfl (some ⟨w1.heap.size, 0, none⟩) n n rfl i rfl (Nat.le_trans (Nat.le_add_right i k) HIK.out) (Nat.le_refl _) ?_)
  intro A' hA'
  have hpos : 0 < (u8s bl).length → A' = some ⟨w1.heap.size, i, none⟩ ∧ ∃ ad, B = some ad ∧ ∀ j v, (u8s bl)[j]? = some v → w3.cell? (ad.add j) = some v := fun h0 => by
    rw [u8s_len, HBLL.out] at h0
    obtain ⟨b, o, e, hb, _, hc⟩ := HBY.out.2 h0
    refine ⟨by have := hA'.2.2.2.2 _ _ rfl (by have := HIK.out; omega); rwa [Nat.zero_add] at this, ⟨b, o, none⟩, e, fun j v hv => ?_⟩
    have hj : j < bl.length := by have := (List.getElem?_eq_some_iff.1 hv).1; rwa [u8s_len] at this
    rw [u8s_get bl j hj] at hv
    injection hv with hv
    rw [add_mk, hc j hj, hv]
  have HPOS := Lib.hid hpos
  clear hpos hA'
  go_wp2_with (refine wpList_copy_splice rfl (.tmp 30) (.tmp 31) 27 27 rfl 5 Tryz.underlying27 (by kernel_rfl) A' B (n - i) (n - i) k cb rfl rfl w1.heap.size i (u8s l) 5 HG3.out (u8s bl) (by rw [u8s_len, HBLL.out]; have := HIK.out; show k = min k (n - i); omega) HPOS.out (by rw [u8s_len, u8s_len, HLEN.out, HBLL.out]; exact HIK.out) (u8s_one bl) (w.alloc (.cells #[.int .i64 (i : Nat), .int .i64 (k : Nat)] 23)).heap.size (w.alloc (.cells #[.int .i64 (i : Nat), .int .i64 (k : Nat)] 23)) HX3.out HBS.out ?_)
  intro w4 hg4 hx4
  replace hx4 : Below (w.alloc (.cells #[.int .i64 (i : Nat), .int .i64 (k : Nat)] 23)).heap.size (w.alloc (.cells #[.int .i64 (i : Nat), .int .i64 (k : Nat)] 23)) w4 := by rw [World.size_alloc]; exact hx4
  have hg4' := hg4.out
  rw [splice_u8s l bl i k HBLL.out] at hg4'
  have HG4 := Lib.hid hg4'
  have HB4 : Hid (Below w.heap.size w w4) := Lib.hid (HBB.out.trans (hx4.mono HBB.out.size))
  have HBS2 : Hid (w.heap.size ≤ w1.heap.size) := Lib.hid HB.out.size
  clear hg4 hg4' hx4 d2 d3
  go_wp2_with fail
  refine bodyPost_ret (results_tmp2 rfl _ _ _) rfl ?_
  exact ⟨w1.heap.size, rfl, HBS2.out, HG4.out, HB4.out⟩
end Go.Proofs.YtojmckbpafkagaaGreatDoor
