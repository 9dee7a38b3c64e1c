import Derived.Test.YtjbepnkchoaipaaGreatM14
import Derived.Test.YtjbepnkchoaipaaGreatShelf
import Derived.RangeFuncNested
import Derived.RangeFuncBound
import Derived.RangeFuncCalls
import Derived.RangeFuncLeaves
import Derived.RangeFuncBox
import Derived.Shelf.Abstract
import Derived.Shelf.RegionOpen
import Derived.OwnWalkIn
import Derived.TacticsInMore
import Derived.LoopNIn
import Derived.LoopIn
import Derived.Maps.OwnIn
import Derived.Sort.MapsRangeIn
import Derived.Maps.AppendAt
set_option linter.unusedVariables false
set_option linter.unusedSimpArgs false
/- Contract: the iterator of sorted: the keys with a prefix, in order. -/
namespace Go.Proofs.YtjbepnkchoaipaaGreat
open Go.RowKit Go.Lib Go.Maps Go.WideMaps Go.Sort Go.Shelf
set_option maxRecDepth 100000
attribute [local go_sem] Oper.semAt_some
/-- What the rounds of a loop keep: all cells but those that C names. -/
def KpC (C : World → Nat → Prop) (W W' : World) : Prop :=
  (∀ k o, W.heap[k]? = some o → o.isCells = true → ¬ C W k → W'.heap[k]? = some o) ∧ W.heap.size ≤ W'.heap.size ∧ ∀ k, k < W.heap.size → C W' k → C W k
theorem KpC.t {C : World → Nat → Prop} {A B D : World} (h : KpC C A B) (k : KpC C B D) : KpC C A D :=
  ⟨fun j o ho hc hn => k.1 j o (h.1 j o ho hc hn) hc (fun hcb => hn (h.2.2 j (Array.getElem?_eq_some_iff.1 ho).1 hcb)), Nat.le_trans h.2.1 k.2.1, fun j hj hd => h.2.2 j hj (k.2.2 j (Nat.lt_of_lt_of_le hj h.2.1) hd)⟩
/-- The keys with a prefix, in order. -/
def keysOf (m : List (J.B × J.B)) (pre : ByteArray) : List J.B := (m.map (·.1)).filter fun k => Lib.hasPrefix k pre.data.toList
theorem keysOf_len (m : List (J.B × J.B)) (pre : ByteArray) : (keysOf m pre).length ≤ m.length := by
  have := List.length_filter_le (fun k => Lib.hasPrefix k pre.data.toList) (m.map (·.1))
  rw [List.length_map] at this; exact this
theorem keysOf_sorted {m : List (J.B × J.B)} (h : J.Asc m) (pre : ByteArray) {ss : List J.B} (hp : ss.Perm (m.map (·.1))) : (ss.filter fun k => Lib.hasPrefix k pre.data.toList).mergeSort (fun x y => decide (x ≤ y)) = keysOf m pre := by
  rw [mergeSort_of_perm (hp.filter _)]
  refine List.mergeSort_of_pairwise (List.Pairwise.filter _ ?_)
  rw [List.pairwise_map]
  exact List.Pairwise.imp (fun {a b} hab => by simpa using List.le_of_lt hab) h
theorem Tryz.infoS : (Tryz.prog.info? 9).map (fun i => (i.zero, i.size, i.bytes)) = some (some (.string ⟨#[]⟩), 1, 16) := by kernel_rfl
theorem below_grown {w w' : World} (h : Below w.heap.size w w') : w.grownBy w' none :=
  ⟨h.os, h.tape, h.output, h.size, fun k hk _ => h.block k hk⟩
theorem cells_own {w : World} {base n size : Nat} {e : TypeId} {v : Value} {xs : List Value} (h : w.ownsRow base e size v n xs) : ∀ g, v.ownBlock = some g → ∃ o, w.heap[g]? = some o ∧ o.isCells = true := by
  intro g hg
  rcases h.2 with ⟨rfl, _⟩ | ⟨g', cap, cur, rfl, _, hh, _⟩
  · cases hg
  · have : g' = g := by simpa [Value.ownBlock] using hg
    subst this
    exact ⟨_, hh, rfl⟩
set_option maxHeartbeats 4000000 in
theorem sorted1_in (n : Nat) (hn : 1 ≤ n) (l Bs Bp p b : Nat) (pre : ByteArray) (m : List (J.B × J.B)) (M : Nat → Prop) (C : World → Nat → Prop) (Jv Jx : List J.B → World → Prop) (hml : m.length ≤ 100000000)
    (hY : ∀ xs x W, Jv xs W → xs.length < (keysOf m pre).length → YieldAt Fence.wide (n - 1) Tryz.prog l #[encStr x] W fun e W' => (e = .returned (.bool true) ∧ Jv (xs ++ [x]) W' ∧ KpC C W W') ∨ (e = .returned (.bool false) ∧ Jx (xs ++ [x]) W'))
    (W : World) (hJ : AbidesFrom W.heap.size Jv) (hs : W.cell? ⟨Bs, 0, none⟩ = some (.pointer (some ⟨p, 0, none⟩))) (hp : W.cell? ⟨Bp, 0, none⟩ = some (.string pre)) (hrow : W.cell? ⟨p, 2, none⟩ = some (.map (some b))) (hm : MapR W M b m)
    (hC : ∀ W', Below W.heap.size W W' → ∀ k, C W' k → k < W.heap.size) (h0 : Jv [] W) :
    CallsIn Fence.wide n Tryz.prog 96 #[.func (.yield l) #[] #[], .pointer (some ⟨Bs, 0, none⟩), .pointer (some ⟨Bp, 0, none⟩)] W fun e W' => (∃ v, e = .returned v) ∧
      ((∃ ys, ys = keysOf m pre ∧ Jv ys W') ∨ (∃ q, q <+: keysOf m pre ∧ Jx q W')) := by
  obtain ⟨i0, hi, hz0, hz1, hz2⟩ := info_parts Tryz.infoS
  have hm0 := hm
  obtain ⟨D, hown, hasc, hhas, hval⟩ := hm
  have hbl := hown.lt
  have hsz : Maps.size D = m.length := hm0.size_eq hown hhas
  have HM := Lib.hid hm0
  have HSZ := Lib.hid hsz
  have HH := Lib.hid hhas
  have HOW := Lib.hid hown
  have HY := Lib.hid hY
  have HC := Lib.hid hC
  have HJ := Lib.hid hJ
  have H0 := Lib.hid h0
  have HA := Lib.hid hasc
  clear hval hm0 hhas hsz hY hC hJ h0 hasc
  have hBp : Bp < W.heap.size := World.block_lt_of_cell? W ⟨Bp, 0, none⟩ hp
  refine callsIn_of_wp Tryz.func96 rfl trivial ?_ rfl
  simp only [Tryz.ntmps96, List.size_toArray, List.length_cons, List.length_nil, Nat.reduceAdd, Nat.reduceSub, Array.replicate_succ, Array.replicate_zero, List.push_toArray, List.append_toArray, List.nil_append, List.cons_append]
  gi_wp2_with (first
    | (gi_at_range; refine wpListIn_range_own _ rfl _ 79 rfl 9 37 lawS Tryz.underlying79 _ b (Maps.size D) _ rfl hown ?_; intro w0 hrg0 hg0 hs0)
    | gi_in)
  go_frame
  gi_loopw [4] (fun lv wr => ∃ (left : Lit → Bool) (cnt : Nat) (ss : List J.B), wr.ranges Tryz.prog 9 vElem b W.heap.size (Maps.size D) D left cnt ∧ ss.length + cnt ≤ m.length ∧
      wr.ownsRow W.heap.size 9 1 lv (ss.filter fun k => Lib.hasPrefix k pre.data.toList).length ((ss.filter fun k => Lib.hasPrefix k pre.data.toList).map encStr) ∧ Collected D left ss ∧ Below W.heap.size W wr)
    (fun _ wr => wr.rangeLeft b W.heap.size)
  case atStart =>
    exact ⟨_, _, [], hrg0, by have := HSZ.out; simp; omega, World.ownsRow_nil _ _ _ _, Collected.start D, (Below.refl _ W).grown hg0 (Nat.le_refl _) (fun j hj => by cases hj)⟩
  case round =>
    obtain ⟨left, cnt, ss, hrg, hcs, hrow2, hCo, hB⟩ := hrel
    have hJW : Jv [] wr := HJ.out [] W wr none H0.out (below_grown hB) (fun r e => by cases e)
    have hcp : wr.cell? ⟨Bp, 0, none⟩ = some (.string pre) := (hB.cell (p := ⟨Bp, 0, none⟩) hBp).trans hp
    have HB := Lib.hid hB
    have HJW := Lib.hid hJW
    clear hJW hB
    gi_wp2_with (first
      | (gi_at_next; refine wpListIn_next_ranges _ rfl _ rfl 9 lawS vElem encStr id (fun key kl hk => by obtain ⟨x, hx, _⟩ := Maps.keyOf_str Tryz.underlying9 hk; exact ⟨x, hx⟩) (fun v y hv => ⟨v, rfl⟩) b W.heap.size (Maps.size D) _ _ _ rfl hrg ?_ ?_)
      | gi_in)
    · intro hc0 hl0
      have hperm : ss.Perm (m.map (·.1)) := (hCo.perm HOW.out lawS Tryz.underlying9 hl0).trans (HM.out.perm D _ HOW.out HH.out).symm
      have hsrt := keysOf_sorted HA.out pre hperm
      have HS := Lib.hid hsrt
      clear hperm hsrt
      rcases hrow2.2 with ⟨rfl, hn0⟩ | ⟨g, cap, cur, rfl, hbase, hbk, h1, h2, h3, h4⟩
      · have hk0 : keysOf m pre = [] := by
          have := congrArg List.length HS.out
          rw [List.length_mergeSort, hn0] at this
          exact List.eq_nil_of_length_eq_zero this.symm
        have HK0 := Lib.hid hk0
        clear hk0 hrg hcs hrow2 hCo hc0 hl0 hn0
        gi_wp2_with fail
        refine ⟨trivial, (callsIn_wide.2 (Tryz.slices_Sort_string_none none 0 wr)).mono ?_⟩
        rintro e w3 ⟨rfl, rfl⟩
        gi_wp2
        gi_loopw [28] (fun i W2 => i = .int .i64 0 ∧ Jv [] W2) (fun _ _ => 0)
        case atStart => exact ⟨rfl, HJW.out⟩
        case round =>
          obtain ⟨rfl, hj⟩ := hrel
          gi_wp2
          go_end0
          exact ⟨⟨_, rfl⟩, .inl ⟨[], HK0.out.symm, hj⟩⟩
      · have hH : Holds encStr wr g 0 (ss.filter fun k => Lib.hasPrefix k pre.data.toList).toArray := holds_of_block hbk (by simpa using h4)
        have hgl : g < wr.heap.size := (Array.getElem?_eq_some_iff.1 hbk).1
        have hfl : (ss.filter fun k => Lib.hasPrefix k pre.data.toList).length ≤ ss.length := List.length_filter_le _ _
        have hc := Tryz.slices_Sort_string g 0 cap (ss.filter fun k => Lib.hasPrefix k pre.data.toList) wr hH hgl (by omega)
        have hlen : (ss.filter fun k => Lib.hasPrefix k pre.data.toList).length = (keysOf m pre).length := by rw [← HS.out]; exact (List.length_mergeSort _).symm
        have hs2 : (ss.filter fun k => Lib.hasPrefix k pre.data.toList).mergeSort (fun x y => decide (x ≤ y)) = keysOf m pre := HS.out
        rw [hs2] at hc
        have HL := Lib.hid hlen
        have HRW := Lib.hid (show ∀ os nn, _ from fun os nn => ownsRow_sorted (ss := ss.filter fun k => Lib.hasPrefix k pre.data.toList) (ts := keysOf m pre) hlen.symm hbase hbk h1 h2 h3 (os := os) (n := nn))
        have HC1 := Lib.hid hc
        have HBS := Lib.hid hbase
        have HCP := Lib.hid h1
        clear hH hgl hfl hc hlen hs2 hrg hcs hrow2 hCo hc0 hl0 hbk h2 h3 h4 hbase h1
        gi_wp2_with fail
        refine ⟨trivial, (callsIn_wide.2 HC1.out).mono ?_⟩
        rintro e w3 ⟨rfl, nn, os, hw3⟩
        have hown3 := HRW.out os nn
        have hb3 := HB.out.grown (grownBy_sorted (w := wr) (g := g) (n := nn) (os := os) (keysOf m pre).toArray) HB.out.size (fun j hj => by cases hj; exact HBS.out)
        rw [← hw3] at hown3 hb3
        rw [HL.out] at hown3 ⊢
        have hJ3 : Jv [] w3 := HJ.out [] W w3 none H0.out (below_grown hb3) (fun r e => by cases e)
        have hC3 : ¬ C w3 g := fun h => absurd (HC.out w3 hb3 g h) (by have := HBS.out; omega)
        have HO3 := Lib.hid hown3
        have HJ3 := Lib.hid hJ3
        have HC3 := Lib.hid hC3
        clear hown3 hb3 hJ3 hC3 hw3
        have hlm := keysOf_len m pre
        gi_wp2
        gi_loopw [28] (fun i W2 => ∃ k : Nat, k ≤ (keysOf m pre).length ∧ i = .int .i64 k ∧ Jv ((keysOf m pre).take k) W2 ∧ W2.ownsRow W.heap.size 9 1 (.slice (some ⟨g, 0, none⟩) (keysOf m pre).length cap) (keysOf m pre).length ((keysOf m pre).map encStr) ∧ ¬ C W2 g) (fun i _ => (keysOf m pre).length - (intOf i).toNat)
        case atStart => exact ⟨0, Nat.zero_le _, rfl, HJ3.out, HO3.out, HC3.out⟩
        case round =>
          obtain ⟨k, hk, rfl, hj, ho, hnc⟩ := hrel
          have HJK := Lib.hid hj
          have HOK := Lib.hid ho
          have HNC := Lib.hid hnc
          clear hj ho hnc
          by_cases hlt : k < (keysOf m pre).length
          · obtain ⟨fn, tmps, assign, body, hy, hR⟩ := HY.out _ ((keysOf m pre)[k]) wr HJK.out (by rw [List.length_take]; omega)
            have hcell : wr.cell? ⟨g, k, none⟩ = some (encStr ((keysOf m pre)[k])) := by
              have := HOK.out.cellAt k (by omega)
              show wr.cell? ⟨g, k, none⟩ = _
              rw [this]; simp [hlt]
            have HTK := Lib.hid (List.take_succ_eq_append_getElem hlt)
            gi_wp2_with fail
            refine hR.mono ?_
            rintro e W4 (⟨rfl, hj4, hk4⟩ | ⟨rfl, hjx⟩)
            · have hcl := cells_own HOK.out g rfl
              have hgk : W4.heap[g]? = wr.heap[g]? := by obtain ⟨o, ho, hc⟩ := hcl; rw [hk4.1 g o ho hc HNC.out, ho]
              have ho4 := own_same HOK.out (w' := W4) (fun k e => by have : g = k := by simpa [Value.ownBlock] using e
                                                                     subst this; exact hgk)
              have hn4 : ¬ C W4 g := fun h => HNC.out (hk4.2.2 g (Array.getElem?_eq_some_iff.1 hcl.choose_spec.1).1 h)
              have HO4 := Lib.hid ho4
              have HN4 := Lib.hid hn4
              have HJ4 := Lib.hid hj4
              clear ho4 hn4 hj4 hk4 hcl hgk
              gi_wp2
              go_roundw
              case rel => exact ⟨k + 1, by omega, by go_num, by rw [HTK.out]; exact HJ4.out, HO4.out, HN4.out⟩
              case measure => simp [intOf]; omega
            · have HJX := Lib.hid hjx
              clear hjx
              gi_wp2
              refine bodyPost_ret (results_none rfl _ _ _) rfl ?_
              exact ⟨⟨_, rfl⟩, .inr ⟨_, List.take_prefix (k + 1) _, by rw [HTK.out]; exact HJX.out⟩⟩
          · obtain rfl : k = (keysOf m pre).length := by omega
            have hj' := HJK.out
            rw [List.take_length] at hj'
            have HJE := Lib.hid hj'
            clear hj'
            gi_wp2
            go_end0
            exact ⟨⟨_, rfl⟩, .inl ⟨_, rfl, HJE.out⟩⟩
    · intro x c kl yd yp w2 cnt2 hkey hlk hv hat hrg2 hlt hg2 hs2 hen
      obtain ⟨x', ex, rfl, _⟩ := Maps.keyOf_str Tryz.underlying9 hkey
      obtain rfl : x = x' := encStr_inj ex
      have hrow3 := hrow2.kept hg2 (Or.inr (row_ne_iter hrow2 hrg).symm)
      have hcp2 : w2.cell? ⟨Bp, 0, none⟩ = some (.string pre) := ((HB.out.grown hg2 HB.out.size (fun j hj => by cases hj; exact Nat.le_refl _)).cell (p := ⟨Bp, 0, none⟩) hBp).trans hp
      clear hs2
      have hpx := Tryz.strings_HasPrefix ⟨x.toArray⟩ pre w2
      have hfa := List.filter_append (p := fun k => Lib.hasPrefix k pre.data.toList) ss [x]
      cases hb : Lib.hasPrefix x pre.data.toList with
      | false =>
        rw [show Lib.hasPrefix (⟨x.toArray⟩ : ByteArray).data.toList pre.data.toList = false from hb] at hpx
        have hf1 : (ss ++ [x]).filter (fun k => Lib.hasPrefix k pre.data.toList) = ss.filter (fun k => Lib.hasPrefix k pre.data.toList) := by rw [hfa]; simp [hb]
        have HF1 := Lib.hid hf1
        have HRO := Lib.hid hrow3
        have HRG := Lib.hid hrg2
        have HB2 := Lib.hid (HB.out.grown hg2 HB.out.size (fun j hj => by cases hj; exact Nat.le_refl _))
        have HME := Lib.hid (show w2.rangeLeft b W.heap.size < wr.rangeLeft b W.heap.size by rw [hrg2.left_eq, hrg.left_eq]; exact hlt)
        have HCC := Lib.hid (hCo.step hlk hat)
        have HPX := Lib.hid hpx
        clear hf1 hfa hrow3 hrg2 hg2 hrow2 hrg hpx hCo hat
        gi_wp2_with fail
        refine ⟨trivial, (callsIn_wide.2 HPX.out).mono ?_⟩
        rintro e w3 ⟨rfl, hw3⟩
        obtain rfl : w2 = w3 := hw3.symm
        gi_wp2
        go_roundw
        case rel => exact ⟨_, cnt2, ss ++ [x], HRG.out, by simp; omega, by rw [HF1.out]; exact HRO.out, HCC.out, HB2.out⟩
        case measure => exact HME.out
      | true =>
        rw [show Lib.hasPrefix (⟨x.toArray⟩ : ByteArray).data.toList pre.data.toList = true from hb] at hpx
        have hf1 : (ss ++ [x]).filter (fun k => Lib.hasPrefix k pre.data.toList) = ss.filter (fun k => Lib.hasPrefix k pre.data.toList) ++ [x] := by rw [hfa]; simp [hb]
        have HF1 := Lib.hid hf1
        have hfl : (ss.filter fun k => Lib.hasPrefix k pre.data.toList).length ≤ ss.length := List.length_filter_le _ _
        have HB2 := Lib.hid (HB.out.grown hg2 HB.out.size (fun j hj => by cases hj; exact Nat.le_refl _))
        have HRG := Lib.hid hrg2
        have HLE := Lib.hid (show w2.rangeLeft b W.heap.size < wr.rangeLeft b W.heap.size by rw [hrg2.left_eq, hrg.left_eq]; exact hlt)
        have HCC := Lib.hid (hCo.step hlk hat)
        have HPX := Lib.hid hpx
        have HRO := Lib.hid hrow3
        clear hf1 hfa hrow2 hrg hrg2 hg2 hpx hCo hat
        gi_wp2_with fail
        refine ⟨trivial, (callsIn_wide.2 HPX.out).mono ?_⟩
        rintro e w3 ⟨rfl, hw3⟩
        obtain rfl : w2 = w3 := hw3.symm
        gi_wp2_with (first
          | (gi_at_builtin; refine wpListIn_append_own _ rfl _ _ 36 rfl W.heap.size 9 i0 (.string ⟨#[]⟩) 1 16 Tryz.underlying36 hi hz0 hz1 hz2 rfl (by decide) _ _ _ rfl (HRO.out.alloc _) ⟨w2.heap.size, 0, none⟩ 1 1 [encStr x] rfl rfl (cell_one_new _ _ _) (by simp [Value.oneCell', encStr]) (by unfold maxLen at *; omega) (by omega) (by have := HB2.out.size; simp; omega) ?_; intro v' w4 hown' hg3 hnil3)
          | gi_in)
        have hb2 : Below W.heap.size W (w2.alloc (.cells #[encStr x] 9)) := HB2.out.alloc HB2.out.size _
        have hrg3 := (HRG.out.alloc (.cells #[encStr x] 9)).kept hg3 (row_ne_low HRO.out hbl) (row_ne_iter HRO.out HRG.out)
        refine ⟨⟨_, cnt2, ss ++ [x], hrg3, by simp; omega, ?_, HCC.out, hb2.grown hg3 hb2.size (fun j hj => (HRO.out.lt j hj).1)⟩, by rw [hrg3.left_eq, ← HRG.out.left_eq]; exact HLE.out⟩
        rw [HF1.out]
        simpa using hown'
/-- What sorted hands back: a value that visits the keys with a prefix, in order, over a loop whose rounds keep all cells but those that C names. -/
theorem sorted_stops (n : Nat) (hn : 1 ≤ n) (Bs Bp p b : Nat) (pre : ByteArray) (m : List (J.B × J.B)) (M : Nat → Prop) (C : World → Nat → Prop) (hml : m.length ≤ 100000000) (w : World)
    (hs : w.cell? ⟨Bs, 0, none⟩ = some (.pointer (some ⟨p, 0, none⟩))) (hp : w.cell? ⟨Bp, 0, none⟩ = some (.string pre)) (hrow : w.cell? ⟨p, 2, none⟩ = some (.map (some b))) (hm : MapR w M b m)
    (hC : ∀ W, Below w.heap.size w W → ∀ k, C W k → k < w.heap.size) :
    SeqStopsK Fence.wide n Tryz.prog 96 #[.pointer (some ⟨Bs, 0, none⟩), .pointer (some ⟨Bp, 0, none⟩)] (fun x => #[encStr x]) (KpC C) (fun ys => ys = keysOf m pre) (fun q => q <+: keysOf m pre) (keysOf m pre).length w := fun l Jv Jx W hW hJ _ hY h0 => by
  have hc : ∀ {a : Addr} {v : Value}, w.cell? a = some v → W.cell? a = some v := fun {a v} h => (hW.cell (p := a) (World.block_lt_of_cell? w a h)).trans h
  exact sorted1_in n hn l Bs Bp p b pre m M C Jv Jx hml hY W hJ (hc hs) (hc hp) (hc hrow) (hm.step (Step.of_below hW) (hW.block b hm.lt))
    (fun W' hb k hk => Nat.lt_of_lt_of_le (hC W' (hW.trans (hb.mono hW.size)) k hk) hW.size) h0
theorem sorted_any (a : Value) (pre : ByteArray) (w : World) (ha : ∃ r, a = .pointer r) :
    CallsIn Fence.wide 5 Tryz.prog 73 #[a, .string pre] w fun e w' => e = .returned (.func (.func 96) #[] #[.pointer (some ⟨w.heap.size, 0, none⟩), .pointer (some ⟨w.heap.size + 1, 0, none⟩)]) ∧ w' = (w.alloc (.cells #[a] 25)).alloc (.cells #[.string pre] 9) := by
  obtain ⟨r, rfl⟩ := ha
  refine callsIn_of_wp Tryz.func73 rfl trivial ?_ rfl
  simp only [Tryz.ntmps73, List.size_toArray, List.length_cons, List.length_nil, Nat.reduceAdd, Nat.reduceSub, Array.replicate_succ, Array.replicate_zero, List.push_toArray, List.append_toArray, List.nil_append, List.cons_append]
  gi_wp2
  go_ret
  exact ⟨rfl, rfl⟩
end Go.Proofs.YtjbepnkchoaipaaGreat
/- Contracts: slices.Collect of the keys; Keys. -/
namespace Go.Proofs.YtjbepnkchoaipaaGreat
open Go.RowKit Go.Lib Go.Maps Go.WideMaps Go.Sort Go.Shelf
set_option maxRecDepth 100000
attribute [local go_sem] Oper.semAt_some
/-- The blocks of a box that holds a slice: its own, and the slice's. -/
def boxC (B : Nat) (W : World) (k : Nat) : Prop := k = B ∨ ∃ v, Boxed W B 36 v ∧ v.ownBlock = some k
theorem boxed_inj {W : World} {B : Nat} {t : TypeId} {u v : Value} (h : Boxed W B t u) (h' : Boxed W B t v) : u = v := by
  have := (show W.heap[B]? = _ from h).symm.trans h'
  injection this with e
  injection e with e
  injection e with e
  injection e
theorem boxC_put {B : Nat} {w : World} (hB : B < w.heap.size) (W : World) (l : Nat) (o o' : Obj) (hl : w.heap.size ≤ l) (h : W.heap[l]? = some o) (hc : o.isCells = false) (_ : o.isWalk = false) : KpC (boxC B) W (W.putObj l o') := by
  refine ⟨fun k q hq hqc _ => ?_, by simp, fun k _ hk => ?_⟩
  · have : k ≠ l := fun e => by subst e; rw [h] at hq; injection hq with hq; subst hq; rw [hc] at hqc; cases hqc
    exact (World.putObj_heap_other this).trans hq
  · rcases hk with rfl | ⟨v, hv, hk⟩
    · exact .inl rfl
    · exact .inr ⟨v, (World.putObj_heap_other (by omega)).symm.trans hv, hk⟩
theorem boxC_append {W w1 : World} {B : Nat} {v v' : Value} {tmp : Obj} (hv : Boxed W B 36 v) (hv2 : Boxed (w1.setCell ⟨B, 0, none⟩ v') B 36 v') (hg : (W.alloc tmp).grownBy w1 v.ownBlock) (hat : v'.ownBlock = v.ownBlock ∨ v'.ownBlock = some (W.alloc tmp).heap.size) :
    KpC (boxC B) W (w1.setCell ⟨B, 0, none⟩ v') := by
  refine ⟨fun k q hq _ hn => ?_, ?_, fun k hk hc => ?_⟩
  · have hkl : k < W.heap.size := (Array.getElem?_eq_some_iff.1 hq).1
    have h1 : k ≠ B := fun e => hn (.inl e)
    have h2 : some k ≠ v.ownBlock := fun e => hn (.inr ⟨v, hv, e.symm⟩)
    exact (Below.heap_setCell _ _ _ k h1).trans ((hg.block k (by simp; omega) h2).trans ((Below.heap_alloc _ _ _ hkl).trans hq))
  · have := hg.size
    have h2 := (KeepsWalks.setCell w1 ⟨B, 0, none⟩ v').size
    simp at this; omega
  · rcases hc with rfl | ⟨u, hu, hk2⟩
    · exact .inl rfl
    · obtain rfl := boxed_inj hu hv2
      rcases hat with e | e
      · exact .inr ⟨v, hv, e ▸ hk2⟩
      · rw [e] at hk2; injection hk2 with hk2; simp at hk2; omega
set_option maxHeartbeats 2000000 in
theorem appendSeq_in (Bs Bp p b : Nat) (pre : ByteArray) (m : List (J.B × J.B)) (M : Nat → Prop) (hml : m.length ≤ 100000000) (w : World)
    (hs : w.cell? ⟨Bs, 0, none⟩ = some (.pointer (some ⟨p, 0, none⟩))) (hp : w.cell? ⟨Bp, 0, none⟩ = some (.string pre)) (hrow : w.cell? ⟨p, 2, none⟩ = some (.map (some b))) (hm : MapR w M b m) :
    CallsIn Fence.wide 5 Tryz.prog 95 #[.slice none 0 0, .func (.func 96) #[] #[.pointer (some ⟨Bs, 0, none⟩), .pointer (some ⟨Bp, 0, none⟩)]] w fun e w' => ∃ v, e = .returned v ∧
      w'.ownsRow w.heap.size 9 1 v (keysOf m pre).length ((keysOf m pre).map encStr) ∧ Below w.heap.size w w' := by
  obtain ⟨i0, hi, hz0, hz1, hz2⟩ := info_parts Tryz.infoS
  have hkl := keysOf_len m pre
  have hB0 : Below w.heap.size w (w.alloc (.cells #[.slice none 0 0] 36)) := (Below.refl _ w).alloc (Nat.le_refl _) _
  have hc : ∀ {a : Addr} {v : Value}, w.cell? a = some v → (w.alloc (.cells #[.slice none 0 0] 36)).cell? a = some v := fun {a v} h => (hB0.cell (p := a) (World.block_lt_of_cell? w a h)).trans h
  have bO := Boxed.new w 36 (.slice none 0 0)
  have hst := sorted_stops 4 (by omega) Bs Bp p b pre m M (boxC w.heap.size) hml (w.alloc (.cells #[.slice none 0 0] 36)) (hc hs) (hc hp) (hc hrow) (hm.step (Step.of_below hB0) (hB0.block b hm.lt)) (by
    rintro W hW k (rfl | ⟨v, hv, hk⟩)
    · simp
    · have hv0 : Boxed W w.heap.size 36 (.slice none 0 0) := (hW.block w.heap.size (by simp)).trans bO
      obtain rfl := boxed_inj hv hv0
      cases hk)
  refine callsIn_of_wp_marks Tryz.func95 rfl trivial ?_ rfl
  simp only [Tryz.ntmps95, List.size_toArray, List.length_cons, List.length_nil, Nat.reduceAdd, Nat.reduceSub, Array.replicate_succ, Array.replicate_zero, List.push_toArray, List.append_toArray, List.nil_append, List.cons_append]
  gi_wp2
  refine wpIn_rangeFunc_ownF rfl (by omega) (gf := 96) (lb := #[.pointer (some ⟨Bs, 0, none⟩), .pointer (some ⟨Bp, 0, none⟩)]) rfl trivial (enters_of Tryz.func96 (by kernel_rfl) rfl)
    hst KpC.t (boxC_put (by simp)) (Below.refl _ _) (fun _ => rfl)
    (fun pr W => (∃ v, Boxed W w.heap.size 36 v ∧ W.ownsRow w.heap.size 9 1 v pr.length (pr.map encStr) ∧ True) ∧ Below w.heap.size w W)
    (fun _ _ _ => False)
    (OwnFrom.and (Own.from (holdsRow_own w.heap.size w.heap.size 36 9 1 (fun pr : List J.B => pr.length) (fun pr => pr.map encStr) (fun _ _ => True)) _) (ownFrom_below (Nat.le_refl _) (by simp)))
    (fun _ _ _ _ _ hs _ _ => hs)
    ⟨⟨_, bO, World.ownsRow_nil _ _ _ _, trivial⟩, hB0⟩
    (fun x => { tmps := #[.slice none 0 0, .func (.func 96) #[] #[.pointer (some ⟨Bs, 0, none⟩), .pointer (some ⟨Bp, 0, none⟩)], .pointer (some ⟨w.heap.size, 0, none⟩), undef, .slice none 0 0, encStr x, .func (.func 96) #[] #[.pointer (some ⟨Bs, 0, none⟩), .pointer (some ⟨Bp, 0, none⟩)], encStr x, undef, undef, undef, undef, undef], defers := [] }) ?assign ?body ?done ?stop
  case assign =>
    intro l x W K hK
    gi_wp2
    exact hK
  case body =>
    rintro l pr x W ⟨⟨v, hv, hrow, _⟩, hB⟩ hlt
    have hc := hv.cell
    gi_wp2_with (gi_at_builtin; refine wpListIn_append_own_at _ rfl _ _ 36 rfl w.heap.size 9 i0 (.string ⟨#[]⟩) 1 16 Tryz.underlying36 hi hz0 hz1 hz2 rfl (by decide) _ _ _ rfl (hrow.alloc _) ⟨W.heap.size, 0, none⟩ 1 1 [encStr x] rfl rfl (cell_one_new _ _ _) (by simp [Value.oneCell', encStr]) (by unfold maxLen; omega) (by omega) (by have := hB.size; simp; omega) ?_; intro v' w1 hown' hgrow _ hat; obtain ⟨g', cap', rfl⟩ := ownsRow_succ hown'; obtain ⟨hv1, hv2, hr2, hk2, hb2⟩ := hv.appended (by decide) hrow hB.size (Nat.le_refl _) hown' hgrow; have hc1 := hv1.cell; have hf1 := hv1.frozen)
    exact ⟨hk2, boxC_append hv hv2 hgrow hat, ⟨_, hv2, by simpa using hr2, trivial⟩, hB.trans hb2⟩
  case done =>
    rintro D ys W hD rfl ⟨⟨v, hv, hrow, _⟩, hB⟩ hK
    have hc := hv.cell
    gi_wp2
    refine ⟨by simp, .inl ⟨_, _, rfl, run_takeDeferred hK, ?_⟩⟩
    exact ⟨_, results_tmp rfl _ _ _, v, rfl, ownsRow_putObj hrow _ hK rfl, hB.trans (belowK_b (w := w) (Nat.le_refl _) W D _ _ (by simp at hD; omega) hK rfl rfl)⟩
  case stop =>
    rintro D c pr W _ _ h _
    exact h.elim
theorem collect_in (Bs Bp p b : Nat) (pre : ByteArray) (m : List (J.B × J.B)) (M : Nat → Prop) (hml : m.length ≤ 100000000) (w : World)
    (hs : w.cell? ⟨Bs, 0, none⟩ = some (.pointer (some ⟨p, 0, none⟩))) (hp : w.cell? ⟨Bp, 0, none⟩ = some (.string pre)) (hrow : w.cell? ⟨p, 2, none⟩ = some (.map (some b))) (hm : MapR w M b m) :
    Calls Tryz.prog 72 #[.func (.func 96) #[] #[.pointer (some ⟨Bs, 0, none⟩), .pointer (some ⟨Bp, 0, none⟩)]] w fun e w' => ∃ v, e = .returned v ∧
      w'.ownsRow w.heap.size 9 1 v (keysOf m pre).length ((keysOf m pre).map encStr) ∧ Below w.heap.size w w' := by
  have H := Lib.hid (callsIn_wide.1 (appendSeq_in Bs Bp p b pre m M hml w hs hp hrow hm))
  clear hs hp hrow hm
  go_enter Tryz.func72, Tryz.ntmps72
  go_wp2_with fail
  refine H.out.mono ?_
  rintro e w' ⟨v, rfl, hown, hb⟩
  have HO := Lib.hid hown
  have HB := Lib.hid hb
  clear hown hb
  go_wp2
  go_ret
  exact ⟨v, rfl, HO.out, HB.out⟩
theorem clipS_opt (A : Option Addr) (n c : Nat) (w : World) (hc : n ≤ c) (h : A = none → n = 0 ∧ c = 0) :
    Calls Tryz.prog 71 #[.slice A n c] w fun e w' => e = .returned (.slice A n n) ∧ w = w' := by
  cases A with
  | some a =>
    clear h
    go_enter Tryz.func71, Tryz.ntmps71
    go_wp2
    go_ret
    exact ⟨rfl, rfl⟩
  | none =>
    obtain ⟨rfl, rfl⟩ := h rfl
    clear h hc
    go_enter Tryz.func71, Tryz.ntmps71
    go_wp2
    go_ret
    exact ⟨rfl, rfl⟩
/-- The strings of a slice. -/
def StrsAt (w : World) (A : Option Addr) (ks : List J.B) : Prop := 0 < ks.length → ∃ g, A = some ⟨g, 0, none⟩ ∧ g < w.heap.size ∧ ∀ j (h : j < ks.length), w.cell? ⟨g, j, none⟩ = some (encStr ks[j])
theorem StrsAt.below {w w' : World} {A : Option Addr} {ks : List J.B} (h : StrsAt w A ks) (hb : Below w.heap.size w w') : StrsAt w' A ks := fun hn => by
  obtain ⟨g, e, hg, hc⟩ := h hn
  exact ⟨g, e, Nat.lt_of_lt_of_le hg hb.size, fun j hj => (hb.cell (p := ⟨g, j, none⟩) hg).trans (hc j hj)⟩
set_option maxHeartbeats 1000000 in
theorem keys_any (p : Nat) (pre : ByteArray) (M : Nat → Prop) (s : J.St) (w : World) (h : StoreR w p M s) (hml : s.now.length ≤ 100000000) :
    Calls Tryz.prog 38 #[.pointer (some ⟨p, 0, none⟩), .string pre] w fun e w' => ∃ A, e = .returned (.slice A (keysOf s.now pre).length (keysOf s.now pre).length) ∧ StrsAt w' A (keysOf s.now pre) ∧ (∀ k, (Value.slice A (keysOf s.now pre).length (keysOf s.now pre).length).ownBlock = some k → w.heap.size ≤ k) ∧ Below w.heap.size w w' := by
  have HRD := Lib.hid (ready_any p M s w h)
  have HS := Lib.hid (callsIn_wide.1 (sorted_any (.pointer (some ⟨p, 0, none⟩)) pre w ⟨_, rfl⟩))
  obtain ⟨bn, bw, ch, wr, b0, b1, b2, b3, d0, d1, d2, d3, h1, h2, h3, h4⟩ := h
  have hB : Below w.heap.size w ((w.alloc (.cells #[.pointer (some ⟨p, 0, none⟩)] 25)).alloc (.cells #[.string pre] 9)) := ((Below.refl _ w).alloc (Nat.le_refl _) _).alloc (by simp) _
  have b1' := Boxed.new (w.alloc (.cells #[.pointer (some ⟨p, 0, none⟩)] 25)) 9 (.string pre)
  rw [World.size_alloc] at b1'
  have HC := Lib.hid (collect_in w.heap.size (w.heap.size + 1) p bn pre s.now M hml _ ((Boxed.new w 25 (.pointer (some ⟨p, 0, none⟩))).alloc _).cell b1'.cell ((hB.cell (p := ⟨p, 2, none⟩) (Array.getElem?_eq_some_iff.1 h1).1).trans (cell_of_row w p 2 _ _ _ h1)) (h3.now.step (Step.of_below hB) (hB.block bn h3.now.lt)))
  have HB := Lib.hid hB
  clear h1 h2 h3 h4 hB b1'
  go_enter Tryz.func38, Tryz.ntmps38
  go_wp2_with fail
  refine HRD.out.mono ?_
  rintro e w1 ⟨rfl, rfl⟩
  go_wp2_with fail
  refine HS.out.mono ?_
  rintro e w1 ⟨rfl, rfl⟩
  go_wp2_with fail
  refine HC.out.mono ?_
  rintro e w2 ⟨v, rfl, hown, hb2⟩
  have hst : ∃ A c, v = .slice A (keysOf s.now pre).length c ∧ (keysOf s.now pre).length ≤ c ∧ (A = none → (keysOf s.now pre).length = 0 ∧ c = 0) ∧ StrsAt w2 A (keysOf s.now pre) ∧ ∀ k, v.ownBlock = some k → w.heap.size ≤ k := by
    have hc := hown
    rcases hown.2 with ⟨rfl, h0⟩ | ⟨g, cap, cur, rfl, hbase, hbk, q1, q2⟩
    · exact ⟨none, 0, by rw [h0], by omega, fun _ => ⟨h0, rfl⟩, fun hn => absurd hn (by omega), fun k e => by cases e⟩
    · refine ⟨_, cap, rfl, q1, fun e => (by cases e), fun _ => ⟨g, rfl, (Array.getElem?_eq_some_iff.1 hbk).1, fun j hj => ?_⟩, fun k e => ?_⟩
      · rw [hc.cellAt j (by omega)]; simp [hj]
      · have : g = k := by simpa [Value.ownBlock] using e
        simp at hbase; omega
  obtain ⟨A, c, rfl, hcn, hA, hSt, hbs⟩ := hst
  have HST := Lib.hid hSt
  have HBS := Lib.hid hbs
  have HB2 := Lib.hid (HB.out.trans (hb2.mono (by simp; omega)))
  have HCL := Lib.hid (clipS_opt A _ c w2 hcn hA)
  clear hown hb2 hSt hbs hA hcn
  go_wp2_with fail
  refine HCL.out.mono ?_
  rintro e w3 ⟨rfl, rfl⟩
  go_wp2
  go_ret
  exact ⟨A, rfl, HST.out, fun k e => HBS.out k (by cases A <;> exact e), HB2.out⟩
end Go.Proofs.YtjbepnkchoaipaaGreat
