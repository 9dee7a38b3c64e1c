import Derived.Test.YthjjbaiijelhnaaM14
import Derived.Test.YthjjbaiijelhnaaShelf
import Derived.RangeFuncNested
import Derived.RangeFuncBound
import Derived.RangeFuncCalls
import Derived.RangeFuncLeaves
import Derived.RangeFuncBox
import Derived.Shelf.Abstract
import Derived.Shelf.RegionOpen
import Derived.OwnWalkIn
import Derived.TacticsInMore
import Derived.LoopNIn
import Derived.LoopIn
import Derived.Maps.OwnIn
import Derived.Sort.MapsRangeIn
import Derived.Maps.AppendAt
import Derived.Test.YthjjbaiijelhnaaM22
import Derived.Test.YthjjbaiijelhnaaM12
import Derived.Deep.QuietTactic
import Derived.Test.YthjjbaiijelhnaaM23
import Derived.Test.YthjjbaiijelhnaaM26
set_option linter.unusedVariables false
set_option linter.unusedSimpArgs false
/- Contract: the iterator of sorted: the keys with a prefix, in order. -/
namespace Go.Proofs.Ythjjbaiijelhnaa
open Go.RowKit Go.Lib Go.Maps Go.WideMaps Go.Sort Go.Shelf
set_option maxRecDepth 100000
attribute [local go_sem] Oper.semAt_some
/-- What the rounds of a loop keep: all cells but those that C names. -/
def KpC (C : World → Nat → Prop) (W W' : World) : Prop :=
  (∀ k o, W.heap[k]? = some o → o.isCells = true → ¬ C W k → W'.heap[k]? = some o) ∧ W.heap.size ≤ W'.heap.size ∧ ∀ k, k < W.heap.size → C W' k → C W k
theorem KpC.t {C : World → Nat → Prop} {A B D : World} (h : KpC C A B) (k : KpC C B D) : KpC C A D :=
  ⟨fun j o ho hc hn => k.1 j o (h.1 j o ho hc hn) hc (fun hcb => hn (h.2.2 j (Array.getElem?_eq_some_iff.1 ho).1 hcb)), Nat.le_trans h.2.1 k.2.1, fun j hj hd => h.2.2 j hj (k.2.2 j (Nat.lt_of_lt_of_le hj h.2.1) hd)⟩
/-- The keys with a prefix, in order. -/
def keysOf (m : List (J.B × J.B)) (pre : ByteArray) : List J.B := (m.map (·.1)).filter fun k => Lib.hasPrefix k pre.data.toList
theorem keysOf_len (m : List (J.B × J.B)) (pre : ByteArray) : (keysOf m pre).length ≤ m.length := by
  have := List.length_filter_le (fun k => Lib.hasPrefix k pre.data.toList) (m.map (·.1))
  rw [List.length_map] at this; exact this
theorem keysOf_sorted {m : List (J.B × J.B)} (h : J.Asc m) (pre : ByteArray) {ss : List J.B} (hp : ss.Perm (m.map (·.1))) : (ss.filter fun k => Lib.hasPrefix k pre.data.toList).mergeSort (fun x y => decide (x ≤ y)) = keysOf m pre := by
  rw [mergeSort_of_perm (hp.filter _)]
  refine List.mergeSort_of_pairwise (List.Pairwise.filter _ ?_)
  rw [List.pairwise_map]
  exact List.Pairwise.imp (fun {a b} hab => by simpa using List.le_of_lt hab) h
theorem Try.infoS : (Try.prog.info? 9).map (fun i => (i.zero, i.size, i.bytes)) = some (some (.string ⟨#[]⟩), 1, 16) := by kernel_rfl
theorem below_grown {w w' : World} (h : Below w.heap.size w w') : w.grownBy w' none :=
  ⟨h.os, h.tape, h.output, h.size, fun k hk _ => h.block k hk⟩
theorem cells_own {w : World} {base n size : Nat} {e : TypeId} {v : Value} {xs : List Value} (h : w.ownsRow base e size v n xs) : ∀ g, v.ownBlock = some g → ∃ o, w.heap[g]? = some o ∧ o.isCells = true := by
  intro g hg
  rcases h.2 with ⟨rfl, _⟩ | ⟨g', cap, cur, rfl, _, hh, _⟩
  · cases hg
  · have : g' = g := by simpa [Value.ownBlock] using hg
    subst this
    exact ⟨_, hh, rfl⟩
set_option maxHeartbeats 4000000 in
theorem sorted1_in (n : Nat) (hn : 1 ≤ n) (l Bs Bp p b : Nat) (pre : ByteArray) (m : List (J.B × J.B)) (M : Nat → Prop) (C : World → Nat → Prop) (Jv Jx : List J.B → World → Prop) (hml : m.length ≤ 100000000)
    (hY : ∀ xs x W, Jv xs W → xs.length < (keysOf m pre).length → YieldAt Fence.wide (n - 1) Try.prog l #[encStr x] W fun e W' => (e = .returned (.bool true) ∧ Jv (xs ++ [x]) W' ∧ KpC C W W') ∨ (e = .returned (.bool false) ∧ Jx (xs ++ [x]) W'))
    (W : World) (hJ : AbidesFrom W.heap.size Jv) (hs : W.cell? ⟨Bs, 0, none⟩ = some (.pointer (some ⟨p, 0, none⟩))) (hp : W.cell? ⟨Bp, 0, none⟩ = some (.string pre)) (hrow : W.cell? ⟨p, 2, none⟩ = some (.map (some b))) (hm : MapR W M b m)
    (hC : ∀ W', Below W.heap.size W W' → ∀ k, C W' k → k < W.heap.size) (h0 : Jv [] W) :
    CallsIn Fence.wide n Try.prog 73 #[.func (.yield l) #[] #[], .pointer (some ⟨Bs, 0, none⟩), .pointer (some ⟨Bp, 0, none⟩)] W fun e W' => (∃ v, e = .returned v) ∧
      ((∃ ys, ys = keysOf m pre ∧ Jv ys W') ∨ (∃ q, q <+: keysOf m pre ∧ Jx q W')) := by
  obtain ⟨i0, hi, hz0, hz1, hz2⟩ := info_parts Try.infoS
  have hm0 := hm
  obtain ⟨D, hown, hasc, hhas, hval⟩ := hm
  have hbl := hown.lt
  have hsz : Maps.size D = m.length := hm0.size_eq hown hhas
  have HM := Lib.hid hm0
  have HSZ := Lib.hid hsz
  have HH := Lib.hid hhas
  have HOW := Lib.hid hown
  have HY := Lib.hid hY
  have HC := Lib.hid hC
  have HJ := Lib.hid hJ
  have H0 := Lib.hid h0
  have HA := Lib.hid hasc
  clear hval hm0 hhas hsz hY hC hJ h0 hasc
  have hBp : Bp < W.heap.size := World.block_lt_of_cell? W ⟨Bp, 0, none⟩ hp
  refine callsIn_of_wp Try.func73 rfl trivial ?_ rfl
  simp only [Try.ntmps73, List.size_toArray, List.length_cons, List.length_nil, Nat.reduceAdd, Nat.reduceSub, Array.replicate_succ, Array.replicate_zero, List.push_toArray, List.append_toArray, List.nil_append, List.cons_append]
  gi_wp2_with (first
    | (gi_at_range; refine wpListIn_range_own _ rfl _ 54 rfl 9 22 lawS Try.underlying54 _ b (Maps.size D) _ rfl hown ?_; intro w0 hrg0 hg0 hs0)
    | gi_in)
  go_frame
  gi_loopw [4] (fun lv wr => ∃ (left : Lit → Bool) (cnt : Nat) (ss : List J.B), wr.ranges Try.prog 9 vElem b W.heap.size (Maps.size D) D left cnt ∧ ss.length + cnt ≤ m.length ∧
      wr.ownsRow W.heap.size 9 1 lv (ss.filter fun k => Lib.hasPrefix k pre.data.toList).length ((ss.filter fun k => Lib.hasPrefix k pre.data.toList).map encStr) ∧ Collected D left ss ∧ Below W.heap.size W wr)
    (fun _ wr => wr.rangeLeft b W.heap.size)
  case atStart =>
    exact ⟨_, _, [], hrg0, by have := HSZ.out; simp; omega, World.ownsRow_nil _ _ _ _, Collected.start D, (Below.refl _ W).grown hg0 (Nat.le_refl _) (fun j hj => by cases hj)⟩
  case round =>
    obtain ⟨left, cnt, ss, hrg, hcs, hrow2, hCo, hB⟩ := hrel
    have hJW : Jv [] wr := HJ.out [] W wr none H0.out (below_grown hB) (fun r e => by cases e)
    have hcp : wr.cell? ⟨Bp, 0, none⟩ = some (.string pre) := (hB.cell (p := ⟨Bp, 0, none⟩) hBp).trans hp
    have HB := Lib.hid hB
    have HJW := Lib.hid hJW
    clear hJW hB
    gi_wp2_with (first
      | (gi_at_next; refine wpListIn_next_ranges _ rfl _ rfl 9 lawS vElem encStr id (fun key kl hk => by obtain ⟨x, hx, _⟩ := Maps.keyOf_str Try.underlying9 hk; exact ⟨x, hx⟩) (fun v y hv => ⟨v, rfl⟩) b W.heap.size (Maps.size D) _ _ _ rfl hrg ?_ ?_)
      | gi_in)
    · intro hc0 hl0
      have hperm : ss.Perm (m.map (·.1)) := (hCo.perm HOW.out lawS Try.underlying9 hl0).trans (HM.out.perm D _ HOW.out HH.out).symm
      have hsrt := keysOf_sorted HA.out pre hperm
      have HS := Lib.hid hsrt
      clear hperm hsrt
      rcases hrow2.2 with ⟨rfl, hn0⟩ | ⟨g, cap, cur, rfl, hbase, hbk, h1, h2, h3, h4⟩
      · have hk0 : keysOf m pre = [] := by
          have := congrArg List.length HS.out
          rw [List.length_mergeSort, hn0] at this
          exact List.eq_nil_of_length_eq_zero this.symm
        have HK0 := Lib.hid hk0
        clear hk0 hrg hcs hrow2 hCo hc0 hl0 hn0
        gi_wp2_with fail
        refine ⟨trivial, (callsIn_wide.2 (Try.slices_Sort_string_none none 0 wr)).mono ?_⟩
        rintro e w3 ⟨rfl, rfl⟩
        gi_wp2
        gi_loopw [28] (fun i W2 => i = .int .i64 0 ∧ Jv [] W2) (fun _ _ => 0)
        case atStart => exact ⟨rfl, HJW.out⟩
        case round =>
          obtain ⟨rfl, hj⟩ := hrel
          gi_wp2
          go_end0
          exact ⟨⟨_, rfl⟩, .inl ⟨[], HK0.out.symm, hj⟩⟩
      · have hH : Holds encStr wr g 0 (ss.filter fun k => Lib.hasPrefix k pre.data.toList).toArray := holds_of_block hbk (by simpa using h4)
        have hgl : g < wr.heap.size := (Array.getElem?_eq_some_iff.1 hbk).1
        have hfl : (ss.filter fun k => Lib.hasPrefix k pre.data.toList).length ≤ ss.length := List.length_filter_le _ _
        have hc := Try.slices_Sort_string g 0 cap (ss.filter fun k => Lib.hasPrefix k pre.data.toList) wr hH hgl (by omega)
        have hlen : (ss.filter fun k => Lib.hasPrefix k pre.data.toList).length = (keysOf m pre).length := by rw [← HS.out]; exact (List.length_mergeSort _).symm
        have hs2 : (ss.filter fun k => Lib.hasPrefix k pre.data.toList).mergeSort (fun x y => decide (x ≤ y)) = keysOf m pre := HS.out
        rw [hs2] at hc
        have HL := Lib.hid hlen
        have HRW := Lib.hid (show ∀ os nn, _ from fun os nn => ownsRow_sorted (ss := ss.filter fun k => Lib.hasPrefix k pre.data.toList) (ts := keysOf m pre) hlen.symm hbase hbk h1 h2 h3 (os := os) (n := nn))
        have HC1 := Lib.hid hc
        have HBS := Lib.hid hbase
        have HCP := Lib.hid h1
        clear hH hgl hfl hc hlen hs2 hrg hcs hrow2 hCo hc0 hl0 hbk h2 h3 h4 hbase h1
        gi_wp2_with fail
        refine ⟨trivial, (callsIn_wide.2 HC1.out).mono ?_⟩
        rintro e w3 ⟨rfl, nn, os, hw3⟩
        have hown3 := HRW.out os nn
        have hb3 := HB.out.grown (grownBy_sorted (w := wr) (g := g) (n := nn) (os := os) (keysOf m pre).toArray) HB.out.size (fun j hj => by cases hj; exact HBS.out)
        rw [← hw3] at hown3 hb3
        rw [HL.out] at hown3 ⊢
        have hJ3 : Jv [] w3 := HJ.out [] W w3 none H0.out (below_grown hb3) (fun r e => by cases e)
        have hC3 : ¬ C w3 g := fun h => absurd (HC.out w3 hb3 g h) (by have := HBS.out; omega)
        have HO3 := Lib.hid hown3
        have HJ3 := Lib.hid hJ3
        have HC3 := Lib.hid hC3
        clear hown3 hb3 hJ3 hC3 hw3
        have hlm := keysOf_len m pre
        gi_wp2
        gi_loopw [28] (fun i W2 => ∃ k : Nat, k ≤ (keysOf m pre).length ∧ i = .int .i64 k ∧ Jv ((keysOf m pre).take k) W2 ∧ W2.ownsRow W.heap.size 9 1 (.slice (some ⟨g, 0, none⟩) (keysOf m pre).length cap) (keysOf m pre).length ((keysOf m pre).map encStr) ∧ ¬ C W2 g) (fun i _ => (keysOf m pre).length - (intOf i).toNat)
        case atStart => exact ⟨0, Nat.zero_le _, rfl, HJ3.out, HO3.out, HC3.out⟩
        case round =>
          obtain ⟨k, hk, rfl, hj, ho, hnc⟩ := hrel
          have HJK := Lib.hid hj
          have HOK := Lib.hid ho
          have HNC := Lib.hid hnc
          clear hj ho hnc
          by_cases hlt : k < (keysOf m pre).length
          · obtain ⟨fn, tmps, assign, body, hy, hR⟩ := HY.out _ ((keysOf m pre)[k]) wr HJK.out (by rw [List.length_take]; omega)
            have hcell : wr.cell? ⟨g, k, none⟩ = some (encStr ((keysOf m pre)[k])) := by
              have := HOK.out.cellAt k (by omega)
              show wr.cell? ⟨g, k, none⟩ = _
              rw [this]; simp [hlt]
            have HTK := Lib.hid (List.take_succ_eq_append_getElem hlt)
            gi_wp2_with fail
            refine hR.mono ?_
            rintro e W4 (⟨rfl, hj4, hk4⟩ | ⟨rfl, hjx⟩)
            · have hcl := cells_own HOK.out g rfl
              have hgk : W4.heap[g]? = wr.heap[g]? := by obtain ⟨o, ho, hc⟩ := hcl; rw [hk4.1 g o ho hc HNC.out, ho]
              have ho4 := own_same HOK.out (w' := W4) (fun k e => by have : g = k := by simpa [Value.ownBlock] using e
                                                                     subst this; exact hgk)
              have hn4 : ¬ C W4 g := fun h => HNC.out (hk4.2.2 g (Array.getElem?_eq_some_iff.1 hcl.choose_spec.1).1 h)
              have HO4 := Lib.hid ho4
              have HN4 := Lib.hid hn4
              have HJ4 := Lib.hid hj4
              clear ho4 hn4 hj4 hk4 hcl hgk
              gi_wp2
              go_roundw
              case rel => exact ⟨k + 1, by omega, by go_num, by rw [HTK.out]; exact HJ4.out, HO4.out, HN4.out⟩
              case measure => simp [intOf]; omega
            · have HJX := Lib.hid hjx
              clear hjx
              gi_wp2
              refine bodyPost_ret (results_none rfl _ _ _) rfl ?_
              exact ⟨⟨_, rfl⟩, .inr ⟨_, List.take_prefix (k + 1) _, by rw [HTK.out]; exact HJX.out⟩⟩
          · obtain rfl : k = (keysOf m pre).length := by omega
            have hj' := HJK.out
            rw [List.take_length] at hj'
            have HJE := Lib.hid hj'
            clear hj'
            gi_wp2
            go_end0
            exact ⟨⟨_, rfl⟩, .inl ⟨_, rfl, HJE.out⟩⟩
    · intro x c kl yd yp w2 cnt2 hkey hlk hv hat hrg2 hlt hg2 hs2 hen
      obtain ⟨x', ex, rfl, _⟩ := Maps.keyOf_str Try.underlying9 hkey
      obtain rfl : x = x' := encStr_inj ex
      have hrow3 := hrow2.kept hg2 (Or.inr (row_ne_iter hrow2 hrg).symm)
      have hcp2 : w2.cell? ⟨Bp, 0, none⟩ = some (.string pre) := ((HB.out.grown hg2 HB.out.size (fun j hj => by cases hj; exact Nat.le_refl _)).cell (p := ⟨Bp, 0, none⟩) hBp).trans hp
      clear hs2
      have hpx := Try.strings_HasPrefix ⟨x.toArray⟩ pre w2
      have hfa := List.filter_append (p := fun k => Lib.hasPrefix k pre.data.toList) ss [x]
      cases hb : Lib.hasPrefix x pre.data.toList with
      | false =>
        rw [show Lib.hasPrefix (⟨x.toArray⟩ : ByteArray).data.toList pre.data.toList = false from hb] at hpx
        have hf1 : (ss ++ [x]).filter (fun k => Lib.hasPrefix k pre.data.toList) = ss.filter (fun k => Lib.hasPrefix k pre.data.toList) := by rw [hfa]; simp [hb]
        have HF1 := Lib.hid hf1
        have HRO := Lib.hid hrow3
        have HRG := Lib.hid hrg2
        have HB2 := Lib.hid (HB.out.grown hg2 HB.out.size (fun j hj => by cases hj; exact Nat.le_refl _))
        have HME := Lib.hid (show w2.rangeLeft b W.heap.size < wr.rangeLeft b W.heap.size by rw [hrg2.left_eq, hrg.left_eq]; exact hlt)
        have HCC := Lib.hid (hCo.step hlk hat)
        have HPX := Lib.hid hpx
        clear hf1 hfa hrow3 hrg2 hg2 hrow2 hrg hpx hCo hat
        gi_wp2_with fail
        refine ⟨trivial, (callsIn_wide.2 HPX.out).mono ?_⟩
        rintro e w3 ⟨rfl, hw3⟩
        obtain rfl : w2 = w3 := hw3.symm
        gi_wp2
        go_roundw
        case rel => exact ⟨_, cnt2, ss ++ [x], HRG.out, by simp; omega, by rw [HF1.out]; exact HRO.out, HCC.out, HB2.out⟩
        case measure => exact HME.out
      | true =>
        rw [show Lib.hasPrefix (⟨x.toArray⟩ : ByteArray).data.toList pre.data.toList = true from hb] at hpx
        have hf1 : (ss ++ [x]).filter (fun k => Lib.hasPrefix k pre.data.toList) = ss.filter (fun k => Lib.hasPrefix k pre.data.toList) ++ [x] := by rw [hfa]; simp [hb]
        have HF1 := Lib.hid hf1
        have hfl : (ss.filter fun k => Lib.hasPrefix k pre.data.toList).length ≤ ss.length := List.length_filter_le _ _
        have HB2 := Lib.hid (HB.out.grown hg2 HB.out.size (fun j hj => by cases hj; exact Nat.le_refl _))
        have HRG := Lib.hid hrg2
        have HLE := Lib.hid (show w2.rangeLeft b W.heap.size < wr.rangeLeft b W.heap.size by rw [hrg2.left_eq, hrg.left_eq]; exact hlt)
        have HCC := Lib.hid (hCo.step hlk hat)
        have HPX := Lib.hid hpx
        have HRO := Lib.hid hrow3
        clear hf1 hfa hrow2 hrg hrg2 hg2 hpx hCo hat
        gi_wp2_with fail
        refine ⟨trivial, (callsIn_wide.2 HPX.out).mono ?_⟩
        rintro e w3 ⟨rfl, hw3⟩
        obtain rfl : w2 = w3 := hw3.symm
        gi_wp2_with (first
          | (gi_at_builtin; refine wpListIn_append_own _ rfl _ _ 42 rfl W.heap.size 9 i0 (.string ⟨#[]⟩) 1 16 Try.underlying42 hi hz0 hz1 hz2 rfl (by decide) _ _ _ rfl (HRO.out.alloc _) ⟨w2.heap.size, 0, none⟩ 1 1 [encStr x] rfl rfl (cell_one_new _ _ _) (by simp [Value.oneCell', encStr]) (by unfold maxLen at *; omega) (by omega) (by have := HB2.out.size; simp; omega) ?_; intro v' w4 hown' hg3 hnil3)
          | gi_in)
        have hb2 : Below W.heap.size W (w2.alloc (.cells #[encStr x] 9)) := HB2.out.alloc HB2.out.size _
        have hrg3 := (HRG.out.alloc (.cells #[encStr x] 9)).kept hg3 (row_ne_low HRO.out hbl) (row_ne_iter HRO.out HRG.out)
        refine ⟨⟨_, cnt2, ss ++ [x], hrg3, by simp; omega, ?_, HCC.out, hb2.grown hg3 hb2.size (fun j hj => (HRO.out.lt j hj).1)⟩, by rw [hrg3.left_eq, ← HRG.out.left_eq]; exact HLE.out⟩
        rw [HF1.out]
        simpa using hown'
/-- What sorted hands back: a value that visits the keys with a prefix, in order, over a loop whose rounds keep all cells but those that C names. -/
theorem sorted_stops (n : Nat) (hn : 1 ≤ n) (Bs Bp p b : Nat) (pre : ByteArray) (m : List (J.B × J.B)) (M : Nat → Prop) (C : World → Nat → Prop) (hml : m.length ≤ 100000000) (w : World)
    (hs : w.cell? ⟨Bs, 0, none⟩ = some (.pointer (some ⟨p, 0, none⟩))) (hp : w.cell? ⟨Bp, 0, none⟩ = some (.string pre)) (hrow : w.cell? ⟨p, 2, none⟩ = some (.map (some b))) (hm : MapR w M b m)
    (hC : ∀ W, Below w.heap.size w W → ∀ k, C W k → k < w.heap.size) :
    SeqStopsK Fence.wide n Try.prog 73 #[.pointer (some ⟨Bs, 0, none⟩), .pointer (some ⟨Bp, 0, none⟩)] (fun x => #[encStr x]) (KpC C) (fun ys => ys = keysOf m pre) (fun q => q <+: keysOf m pre) (keysOf m pre).length w := fun l Jv Jx W hW hJ _ hY h0 => by
  have hc : ∀ {a : Addr} {v : Value}, w.cell? a = some v → W.cell? a = some v := fun {a v} h => (hW.cell (p := a) (World.block_lt_of_cell? w a h)).trans h
  exact sorted1_in n hn l Bs Bp p b pre m M C Jv Jx hml hY W hJ (hc hs) (hc hp) (hc hrow) (hm.step (Step.of_below hW) (hW.block b hm.lt))
    (fun W' hb k hk => Nat.lt_of_lt_of_le (hC W' (hW.trans (hb.mono hW.size)) k hk) hW.size) h0
theorem sorted_any (a : Value) (pre : ByteArray) (w : World) (ha : ∃ r, a = .pointer r) :
    CallsIn Fence.wide 5 Try.prog 51 #[a, .string pre] w fun e w' => e = .returned (.func (.func 73) #[] #[.pointer (some ⟨w.heap.size, 0, none⟩), .pointer (some ⟨w.heap.size + 1, 0, none⟩)]) ∧ w' = (w.alloc (.cells #[a] 24)).alloc (.cells #[.string pre] 9) := by
  obtain ⟨r, rfl⟩ := ha
  refine callsIn_of_wp Try.func51 rfl trivial ?_ rfl
  simp only [Try.ntmps51, List.size_toArray, List.length_cons, List.length_nil, Nat.reduceAdd, Nat.reduceSub, Array.replicate_succ, Array.replicate_zero, List.push_toArray, List.append_toArray, List.nil_append, List.cons_append]
  gi_wp2
  go_ret
  exact ⟨rfl, rfl⟩
end Go.Proofs.Ythjjbaiijelhnaa
/- Contracts: slices.Collect of the keys; Keys. -/
namespace Go.Proofs.Ythjjbaiijelhnaa
open Go.RowKit Go.Lib Go.Maps Go.WideMaps Go.Sort Go.Shelf
set_option maxRecDepth 100000
attribute [local go_sem] Oper.semAt_some
/-- The blocks of a box that holds a slice: its own, and the slice's. -/
def boxC (B : Nat) (W : World) (k : Nat) : Prop := k = B ∨ ∃ v, Boxed W B 42 v ∧ v.ownBlock = some k
theorem boxed_inj {W : World} {B : Nat} {t : TypeId} {u v : Value} (h : Boxed W B t u) (h' : Boxed W B t v) : u = v := by
  have := (show W.heap[B]? = _ from h).symm.trans h'
  injection this with e
  injection e with e
  injection e with e
  injection e
theorem boxC_put {B : Nat} {w : World} (hB : B < w.heap.size) (W : World) (l : Nat) (o o' : Obj) (hl : w.heap.size ≤ l) (h : W.heap[l]? = some o) (hc : o.isCells = false) (_ : o.isWalk = false) : KpC (boxC B) W (W.putObj l o') := by
  refine ⟨fun k q hq hqc _ => ?_, by simp, fun k _ hk => ?_⟩
  · have : k ≠ l := fun e => by subst e; rw [h] at hq; injection hq with hq; subst hq; rw [hc] at hqc; cases hqc
    exact (World.putObj_heap_other this).trans hq
  · rcases hk with rfl | ⟨v, hv, hk⟩
    · exact .inl rfl
    · exact .inr ⟨v, (World.putObj_heap_other (by omega)).symm.trans hv, hk⟩
theorem boxC_append {W w1 : World} {B : Nat} {v v' : Value} {tmp : Obj} (hv : Boxed W B 42 v) (hv2 : Boxed (w1.setCell ⟨B, 0, none⟩ v') B 42 v') (hg : (W.alloc tmp).grownBy w1 v.ownBlock) (hat : v'.ownBlock = v.ownBlock ∨ v'.ownBlock = some (W.alloc tmp).heap.size) :
    KpC (boxC B) W (w1.setCell ⟨B, 0, none⟩ v') := by
  refine ⟨fun k q hq _ hn => ?_, ?_, fun k hk hc => ?_⟩
  · have hkl : k < W.heap.size := (Array.getElem?_eq_some_iff.1 hq).1
    have h1 : k ≠ B := fun e => hn (.inl e)
    have h2 : some k ≠ v.ownBlock := fun e => hn (.inr ⟨v, hv, e.symm⟩)
    exact (Below.heap_setCell _ _ _ k h1).trans ((hg.block k (by simp; omega) h2).trans ((Below.heap_alloc _ _ _ hkl).trans hq))
  · have := hg.size
    have h2 := (KeepsWalks.setCell w1 ⟨B, 0, none⟩ v').size
    simp at this; omega
  · rcases hc with rfl | ⟨u, hu, hk2⟩
    · exact .inl rfl
    · obtain rfl := boxed_inj hu hv2
      rcases hat with e | e
      · exact .inr ⟨v, hv, e ▸ hk2⟩
      · rw [e] at hk2; injection hk2 with hk2; simp at hk2; omega
set_option maxHeartbeats 2000000 in
theorem appendSeq_in (Bs Bp p b : Nat) (pre : ByteArray) (m : List (J.B × J.B)) (M : Nat → Prop) (hml : m.length ≤ 100000000) (w : World)
    (hs : w.cell? ⟨Bs, 0, none⟩ = some (.pointer (some ⟨p, 0, none⟩))) (hp : w.cell? ⟨Bp, 0, none⟩ = some (.string pre)) (hrow : w.cell? ⟨p, 2, none⟩ = some (.map (some b))) (hm : MapR w M b m) :
    CallsIn Fence.wide 5 Try.prog 72 #[.slice none 0 0, .func (.func 73) #[] #[.pointer (some ⟨Bs, 0, none⟩), .pointer (some ⟨Bp, 0, none⟩)]] w fun e w' => ∃ v, e = .returned v ∧
      w'.ownsRow w.heap.size 9 1 v (keysOf m pre).length ((keysOf m pre).map encStr) ∧ Below w.heap.size w w' := by
  obtain ⟨i0, hi, hz0, hz1, hz2⟩ := info_parts Try.infoS
  have hkl := keysOf_len m pre
  have hB0 : Below w.heap.size w (w.alloc (.cells #[.slice none 0 0] 42)) := (Below.refl _ w).alloc (Nat.le_refl _) _
  have hc : ∀ {a : Addr} {v : Value}, w.cell? a = some v → (w.alloc (.cells #[.slice none 0 0] 42)).cell? a = some v := fun {a v} h => (hB0.cell (p := a) (World.block_lt_of_cell? w a h)).trans h
  have bO := Boxed.new w 42 (.slice none 0 0)
  have hst := sorted_stops 4 (by omega) Bs Bp p b pre m M (boxC w.heap.size) hml (w.alloc (.cells #[.slice none 0 0] 42)) (hc hs) (hc hp) (hc hrow) (hm.step (Step.of_below hB0) (hB0.block b hm.lt)) (by
    rintro W hW k (rfl | ⟨v, hv, hk⟩)
    · simp
    · have hv0 : Boxed W w.heap.size 42 (.slice none 0 0) := (hW.block w.heap.size (by simp)).trans bO
      obtain rfl := boxed_inj hv hv0
      cases hk)
  refine callsIn_of_wp_marks Try.func72 rfl trivial ?_ rfl
  simp only [Try.ntmps72, List.size_toArray, List.length_cons, List.length_nil, Nat.reduceAdd, Nat.reduceSub, Array.replicate_succ, Array.replicate_zero, List.push_toArray, List.append_toArray, List.nil_append, List.cons_append]
  gi_wp2
  refine wpIn_rangeFunc_ownF rfl (by omega) (gf := 73) (lb := #[.pointer (some ⟨Bs, 0, none⟩), .pointer (some ⟨Bp, 0, none⟩)]) rfl trivial (enters_of Try.func73 (by kernel_rfl) rfl)
    hst KpC.t (boxC_put (by simp)) (Below.refl _ _) (fun _ => rfl)
    (fun pr W => (∃ v, Boxed W w.heap.size 42 v ∧ W.ownsRow w.heap.size 9 1 v pr.length (pr.map encStr) ∧ True) ∧ Below w.heap.size w W)
    (fun _ _ _ => False)
    (OwnFrom.and (Own.from (holdsRow_own w.heap.size w.heap.size 42 9 1 (fun pr : List J.B => pr.length) (fun pr => pr.map encStr) (fun _ _ => True)) _) (ownFrom_below (Nat.le_refl _) (by simp)))
    (fun _ _ _ _ _ hs _ _ => hs)
    ⟨⟨_, bO, World.ownsRow_nil _ _ _ _, trivial⟩, hB0⟩
    (fun x => { tmps := #[.slice none 0 0, .func (.func 73) #[] #[.pointer (some ⟨Bs, 0, none⟩), .pointer (some ⟨Bp, 0, none⟩)], .pointer (some ⟨w.heap.size, 0, none⟩), undef, .slice none 0 0, encStr x, .func (.func 73) #[] #[.pointer (some ⟨Bs, 0, none⟩), .pointer (some ⟨Bp, 0, none⟩)], encStr x, undef, undef, undef, undef, undef], defers := [] }) ?assign ?body ?done ?stop
  case assign =>
    intro l x W K hK
    gi_wp2
    exact hK
  case body =>
    rintro l pr x W ⟨⟨v, hv, hrow, _⟩, hB⟩ hlt
    have hc := hv.cell
    gi_wp2_with (gi_at_builtin; refine wpListIn_append_own_at _ rfl _ _ 42 rfl w.heap.size 9 i0 (.string ⟨#[]⟩) 1 16 Try.underlying42 hi hz0 hz1 hz2 rfl (by decide) _ _ _ rfl (hrow.alloc _) ⟨W.heap.size, 0, none⟩ 1 1 [encStr x] rfl rfl (cell_one_new _ _ _) (by simp [Value.oneCell', encStr]) (by unfold maxLen; omega) (by omega) (by have := hB.size; simp; omega) ?_; intro v' w1 hown' hgrow _ hat; obtain ⟨g', cap', rfl⟩ := ownsRow_succ hown'; obtain ⟨hv1, hv2, hr2, hk2, hb2⟩ := hv.appended (by decide) hrow hB.size (Nat.le_refl _) hown' hgrow; have hc1 := hv1.cell; have hf1 := hv1.frozen)
    exact ⟨hk2, boxC_append hv hv2 hgrow hat, ⟨_, hv2, by simpa using hr2, trivial⟩, hB.trans hb2⟩
  case done =>
    rintro D ys W hD rfl ⟨⟨v, hv, hrow, _⟩, hB⟩ hK
    have hc := hv.cell
    gi_wp2
    refine ⟨by simp, .inl ⟨_, _, rfl, run_takeDeferred hK, ?_⟩⟩
    exact ⟨_, results_tmp rfl _ _ _, v, rfl, ownsRow_putObj hrow _ hK rfl, hB.trans (belowK_b (w := w) (Nat.le_refl _) W D _ _ (by simp at hD; omega) hK rfl rfl)⟩
  case stop =>
    rintro D c pr W _ _ h _
    exact h.elim
theorem collect_in (Bs Bp p b : Nat) (pre : ByteArray) (m : List (J.B × J.B)) (M : Nat → Prop) (hml : m.length ≤ 100000000) (w : World)
    (hs : w.cell? ⟨Bs, 0, none⟩ = some (.pointer (some ⟨p, 0, none⟩))) (hp : w.cell? ⟨Bp, 0, none⟩ = some (.string pre)) (hrow : w.cell? ⟨p, 2, none⟩ = some (.map (some b))) (hm : MapR w M b m) :
    Calls Try.prog 50 #[.func (.func 73) #[] #[.pointer (some ⟨Bs, 0, none⟩), .pointer (some ⟨Bp, 0, none⟩)]] w fun e w' => ∃ v, e = .returned v ∧
      w'.ownsRow w.heap.size 9 1 v (keysOf m pre).length ((keysOf m pre).map encStr) ∧ Below w.heap.size w w' := by
  have H := Lib.hid (callsIn_wide.1 (appendSeq_in Bs Bp p b pre m M hml w hs hp hrow hm))
  clear hs hp hrow hm
  go_enter Try.func50, Try.ntmps50
  go_wp2_with fail
  refine H.out.mono ?_
  rintro e w' ⟨v, rfl, hown, hb⟩
  have HO := Lib.hid hown
  have HB := Lib.hid hb
  clear hown hb
  go_wp2
  go_ret
  exact ⟨v, rfl, HO.out, HB.out⟩
theorem clipS_opt (A : Option Addr) (n c : Nat) (w : World) (hc : n ≤ c) (h : A = none → n = 0 ∧ c = 0) :
    Calls Try.prog 49 #[.slice A n c] w fun e w' => e = .returned (.slice A n n) ∧ w = w' := by
  cases A with
  | some a =>
    clear h
    go_enter Try.func49, Try.ntmps49
    go_wp2
    go_ret
    exact ⟨rfl, rfl⟩
  | none =>
    obtain ⟨rfl, rfl⟩ := h rfl
    clear h hc
    go_enter Try.func49, Try.ntmps49
    go_wp2
    go_ret
    exact ⟨rfl, rfl⟩
/-- The strings of a slice. -/
def StrsAt (w : World) (A : Option Addr) (ks : List J.B) : Prop := 0 < ks.length → ∃ g, A = some ⟨g, 0, none⟩ ∧ g < w.heap.size ∧ ∀ j (h : j < ks.length), w.cell? ⟨g, j, none⟩ = some (encStr ks[j])
theorem StrsAt.below {w w' : World} {A : Option Addr} {ks : List J.B} (h : StrsAt w A ks) (hb : Below w.heap.size w w') : StrsAt w' A ks := fun hn => by
  obtain ⟨g, e, hg, hc⟩ := h hn
  exact ⟨g, e, Nat.lt_of_lt_of_le hg hb.size, fun j hj => (hb.cell (p := ⟨g, j, none⟩) hg).trans (hc j hj)⟩
set_option maxHeartbeats 1000000 in
theorem keys_any (p : Nat) (pre : ByteArray) (M : Nat → Prop) (s : J.St) (w : World) (h : StoreR w p M s) (hml : s.now.length ≤ 100000000) :
    Calls Try.prog 21 #[.pointer (some ⟨p, 0, none⟩), .string pre] w fun e w' => ∃ A, e = .returned (.slice A (keysOf s.now pre).length (keysOf s.now pre).length) ∧ StrsAt w' A (keysOf s.now pre) ∧ (∀ k, (Value.slice A (keysOf s.now pre).length (keysOf s.now pre).length).ownBlock = some k → w.heap.size ≤ k) ∧ Below w.heap.size w w' := by
  have HRD := Lib.hid (ready_any p M s w h)
  have HS := Lib.hid (callsIn_wide.1 (sorted_any (.pointer (some ⟨p, 0, none⟩)) pre w ⟨_, rfl⟩))
  obtain ⟨bn, bw, ch, wr, b0, b1, b2, b3, d0, d1, d2, d3, h1, h2, h3, h4⟩ := h
  have hB : Below w.heap.size w ((w.alloc (.cells #[.pointer (some ⟨p, 0, none⟩)] 24)).alloc (.cells #[.string pre] 9)) := ((Below.refl _ w).alloc (Nat.le_refl _) _).alloc (by simp) _
  have b1' := Boxed.new (w.alloc (.cells #[.pointer (some ⟨p, 0, none⟩)] 24)) 9 (.string pre)
  rw [World.size_alloc] at b1'
  have HC := Lib.hid (collect_in w.heap.size (w.heap.size + 1) p bn pre s.now M hml _ ((Boxed.new w 24 (.pointer (some ⟨p, 0, none⟩))).alloc _).cell b1'.cell ((hB.cell (p := ⟨p, 2, none⟩) (Array.getElem?_eq_some_iff.1 h1).1).trans (cell_of_row w p 2 _ _ _ h1)) (h3.now.step (Step.of_below hB) (hB.block bn h3.now.lt)))
  have HB := Lib.hid hB
  clear h1 h2 h3 h4 hB b1'
  go_enter Try.func21, Try.ntmps21
  go_wp2_with fail
  refine HRD.out.mono ?_
  rintro e w1 ⟨rfl, rfl⟩
  go_wp2_with fail
  refine HS.out.mono ?_
  rintro e w1 ⟨rfl, rfl⟩
  go_wp2_with fail
  refine HC.out.mono ?_
  rintro e w2 ⟨v, rfl, hown, hb2⟩
  have hst : ∃ A c, v = .slice A (keysOf s.now pre).length c ∧ (keysOf s.now pre).length ≤ c ∧ (A = none → (keysOf s.now pre).length = 0 ∧ c = 0) ∧ StrsAt w2 A (keysOf s.now pre) ∧ ∀ k, v.ownBlock = some k → w.heap.size ≤ k := by
    have hc := hown
    rcases hown.2 with ⟨rfl, h0⟩ | ⟨g, cap, cur, rfl, hbase, hbk, q1, q2⟩
    · exact ⟨none, 0, by rw [h0], by omega, fun _ => ⟨h0, rfl⟩, fun hn => absurd hn (by omega), fun k e => by cases e⟩
    · refine ⟨_, cap, rfl, q1, fun e => (by cases e), fun _ => ⟨g, rfl, (Array.getElem?_eq_some_iff.1 hbk).1, fun j hj => ?_⟩, fun k e => ?_⟩
      · rw [hc.cellAt j (by omega)]; simp [hj]
      · have : g = k := by simpa [Value.ownBlock] using e
        simp at hbase; omega
  obtain ⟨A, c, rfl, hcn, hA, hSt, hbs⟩ := hst
  have HST := Lib.hid hSt
  have HBS := Lib.hid hbs
  have HB2 := Lib.hid (HB.out.trans (hb2.mono (by simp; omega)))
  have HCL := Lib.hid (clipS_opt A _ c w2 hcn hA)
  clear hown hb2 hSt hbs hA hcn
  go_wp2_with fail
  refine HCL.out.mono ?_
  rintro e w3 ⟨rfl, rfl⟩
  go_wp2
  go_ret
  exact ⟨A, rfl, HST.out, fun k e => HBS.out k (by cases A <;> exact e), HB2.out⟩
end Go.Proofs.Ythjjbaiijelhnaa
/- Law 30: pairs in memory; without, has, put. -/
namespace Go.Proofs.Ythjjbaiijelhnaa
open Go.RowKit Go.Lib Go.Maps Go.WideMaps Go.Sort
set_option maxRecDepth 100000
theorem Try.infoP : (Try.prog.info? 47).map (fun i => (i.zero, i.size, i.bytes)) = some (some (.agg #[.string ⟨#[]⟩, .string ⟨#[]⟩]), 2, 32) := by kernel_rfl
def prCells (l : List (J.B × J.B)) : List Value := l.flatMap fun p => [encStr p.1, encStr p.2]
theorem prCells_len (l : List (J.B × J.B)) : (prCells l).length = l.length * 2 := by induction l with | nil => rfl | cons a t ih => simp [prCells] at *; omega
theorem prCells_app (a b : List (J.B × J.B)) : prCells (a ++ b) = prCells a ++ prCells b := by simp [prCells]
theorem prCells_get : ∀ (l : List (J.B × J.B)) (k : Nat) (h : k < l.length), (prCells l)[k * 2]? = some (encStr l[k].1) ∧ (prCells l)[k * 2 + 1]? = some (encStr l[k].2)
  | [], k, h => by simp at h
  | a :: t, 0, h => ⟨rfl, rfl⟩
  | a :: t, k + 1, h => by
    have := prCells_get t k (by simpa using h)
    rw [show (k + 1) * 2 = k * 2 + 2 by omega]
    simpa [prCells] using this
theorem prCells_one (l : List (J.B × J.B)) : ∀ u ∈ prCells l, u.oneCell' = true := by
  intro u hu
  simp only [prCells, List.mem_flatMap, List.mem_cons, List.not_mem_nil, or_false] at hu
  obtain ⟨p, _, rfl | rfl⟩ := hu <;> rfl
theorem prCells_drop (l : List (J.B × J.B)) (i : Nat) : prCells (l.drop i) = (prCells l).drop (i * 2) := by
  induction i generalizing l with
  | zero => simp
  | succ i ih =>
    cases l with
    | nil => simp [prCells]
    | cons a t => rw [List.drop_succ_cons, ih, show (i + 1) * 2 = i * 2 + 2 by omega]; simp [prCells]
/-- The pairs of a slice at an address. -/
def PrsO (w : World) (A : Option Addr) (l : List (J.B × J.B)) : Prop := 0 < l.length → ∃ g o, A = some ⟨g, o, none⟩ ∧ g < w.heap.size ∧ ∀ j u, (prCells l)[j]? = some u → w.cell? ⟨g, o + j, none⟩ = some u
/-- .. at the beginning of a block. -/
def PrsAt (w : World) (A : Option Addr) (l : List (J.B × J.B)) : Prop := 0 < l.length → ∃ g, A = some ⟨g, 0, none⟩ ∧ g < w.heap.size ∧ ∀ j u, (prCells l)[j]? = some u → w.cell? ⟨g, j, none⟩ = some u
theorem PrsAt.o {w : World} {A : Option Addr} {l : List (J.B × J.B)} (h : PrsAt w A l) : PrsO w A l := fun hn => by
  obtain ⟨g, e, h1, h2⟩ := h hn
  exact ⟨g, 0, e, h1, fun j u hu => by rw [Nat.zero_add]; exact h2 j u hu⟩
theorem PrsO.below {w w' : World} {A : Option Addr} {l : List (J.B × J.B)} (h : PrsO w A l) (hb : Below w.heap.size w w') : PrsO w' A l := fun hn => by
  obtain ⟨g, o, e, h1, h2⟩ := h hn
  exact ⟨g, o, e, Nat.lt_of_lt_of_le h1 hb.size, fun j u hu => (hb.cell (p := ⟨g, o + j, none⟩) h1).trans (h2 j u hu)⟩
/-- A value that is a slice of pairs; its block is not in M. -/
def Prs (w : World) (M : Nat → Prop) (v : Value) (l : List (J.B × J.B)) : Prop :=
  (v = .slice none 0 0 ∧ l = []) ∨ ∃ g c, v = .slice (some ⟨g, 0, none⟩) l.length c ∧ l.length ≤ c ∧ g < w.heap.size ∧ ¬ M g ∧ ∀ j u, (prCells l)[j]? = some u → w.cell? ⟨g, j, none⟩ = some u
section
variable {w w' : World} {M M' : Nat → Prop} {v : Value} {l : List (J.B × J.B)}
theorem Prs.nil_ : Prs w M (.slice none 0 0) [] := .inl ⟨rfl, rfl⟩
theorem Prs.step (h : Prs w M v l) (hs : Step M M' w w') : Prs w' M' v l := by
  rcases h with h | ⟨g, c, e, h1, h2, h3, h4⟩
  · exact .inl h
  · exact .inr ⟨g, c, e, h1, Nat.lt_of_lt_of_le h2 hs.size, fun h => h3 (hs.sub g h2 h), fun j u hu => (hs.cell (a := ⟨g, j, none⟩) h2 h3).trans (h4 j u hu)⟩
theorem Prs.weak (h : Prs w M v l) (hM : ∀ k, M' k → M k) : Prs w M' v l := by
  rcases h with h | ⟨g, c, e, h1, h2, h3, h4⟩
  · exact .inl h
  · exact .inr ⟨g, c, e, h1, h2, fun h => h3 (hM g h), h4⟩
theorem Prs.slice_ (h : Prs w M v l) : ∃ A c, v = .slice A l.length c ∧ l.length ≤ c ∧ PrsAt w A l ∧ (A = none → c = 0) ∧ (∀ b o, A = some ⟨b, o, none⟩ → o = 0) := by
  rcases h with ⟨rfl, rfl⟩ | ⟨g, c, rfl, h1, h2, h3, h4⟩
  · exact ⟨none, 0, rfl, Nat.le_refl _, fun h => absurd h (by simp), fun _ => rfl, fun _ _ e => by cases e⟩
  · exact ⟨_, c, rfl, h1, fun _ => ⟨g, rfl, h2, h4⟩, fun e => (by cases e), fun b o e => by injection e with e; injection e with _ e; exact e.symm⟩
/-- A row of one's own is pairs that are read. -/
theorem own_prs {base : Nat} (h : w.ownsRow base 47 2 v l.length (prCells l)) (hM : ∀ k, M k → k < base) : Prs w M v l := by
  have h' := h
  rcases h.2 with ⟨rfl, h0⟩ | ⟨g, cap, cur, rfl, hbase, hb, h1, h2⟩
  · exact .inl ⟨by rfl, List.eq_nil_of_length_eq_zero h0⟩
  · refine .inr ⟨g, cap, rfl, h1, (Array.getElem?_eq_some_iff.1 hb).1, fun hm => by have := hM g hm; omega, fun j u hu => ?_⟩
    have hj : j < l.length * 2 := by
      have := (List.getElem?_eq_some_iff.1 hu).1
      rw [prCells_len] at this; exact this
    rw [h'.cellAt j hj, hu]
end
/-- append of pairs: v a row of one's own, from pairs that are read. -/
theorem run_append_prs (w : World) (base : Nat) (v : Value) (n : Nat) (l : List (J.B × J.B)) (hown : w.ownsRow base 47 2 v n (prCells l)) (A : Option Addr) (m c : Nat) (x : List (J.B × J.B)) (hx : PrsO w A x) (hm : x.length = m)
    (hb : n + m ≤ 100000000) (hbase : base ≤ w.heap.size) (ty : TypeId) :
    ∃ v' w', (Builtin.append_ #[41, 41] ty #[v, .slice A m c]).run Try.prog w = .ok v' w' ∧ w'.ownsRow base 47 2 v' (n + m) (prCells (l ++ x)) ∧ w.grownBy w' v.ownBlock ∧ (v'.ownBlock = v.ownBlock ∨ v'.ownBlock = some w.heap.size) := by
  obtain ⟨i0, hi, hz0, hz1, hz2⟩ := info_parts Try.infoP
  rcases Nat.eq_zero_or_pos m with h0 | h0
  · subst h0
    obtain rfl : x = [] := List.eq_nil_of_length_eq_zero hm
    exact ⟨v, w, run_append_of_nil w base _ ty _ i0 2 Try.underlying41 hi v n _ hown A c, by simpa using hown, World.grownBy.refl w _, .inl rfl⟩
  · obtain ⟨g, o, rfl, _, hc⟩ := hx (by omega)
    obtain ⟨v', w', hr, h1, h2, _, h4⟩ := run_append_own_at (P := Try.prog) w base 41 ty 47 i0 (.agg #[.string ⟨#[]⟩, .string ⟨#[]⟩]) 2 32 Try.underlying41 hi hz0 hz1 hz2 rfl (by decide) v n (prCells l) hown ⟨g, o, none⟩ m c (prCells x) (by rw [prCells_len, hm])
      (fun j u hu => by rw [add_mk]; exact hc j u hu) (prCells_one x) (by unfold maxLen; omega) (by omega) hbase
    exact ⟨v', w', hr, by rw [prCells_app]; exact h1, h2, h4⟩
theorem del_snoc (l : List (J.B × J.B)) (k : J.B) (i : Nat) (h : i < l.length) : J.del (l.take (i + 1)) k = J.del (l.take i) k ++ (if l[i].1 = k then [] else [l[i]]) := by
  unfold J.del
  rw [List.take_succ_eq_append_getElem h, List.filter_append]
  congr 1
  by_cases e : l[i].1 = k <;> simp [e]
set_option maxHeartbeats 1000000 in
theorem without_any (v : Value) (l : List (J.B × J.B)) (k : J.B) (w : World) (hv : Prs w NoM v l) (hl : l.length ≤ 1000000) :
    Calls Try.prog 56 #[v, encStr k] w fun e w' => ∃ v', e = .returned v' ∧ w'.ownsRow w.heap.size 47 2 v' (J.del l k).length (prCells (J.del l k)) ∧ Below w.heap.size w w' := by
  obtain ⟨i0, hi, hz0, hz1, hz2⟩ := info_parts Try.infoP
  obtain ⟨A, c, rfl, hlc, hat, hn, hoff⟩ := hv.slice_
  have HA := Lib.hid hat
  clear hat hv hn hoff
  go_enter Try.func56, Try.ntmps56
  go_wp2
  go_loopw [5, 6] (fun out i wr => ∃ j : Nat, j ≤ l.length ∧ i = .int .i64 j ∧ wr.ownsRow w.heap.size 47 2 out (J.del (l.take j) k).length (prCells (J.del (l.take j) k)) ∧ Below w.heap.size w wr) (fun _ i _ => l.length - (intOf i).toNat)
  case atStart => exact ⟨0, Nat.zero_le _, rfl, World.ownsRow_nil _ _ _ _, Below.refl _ _⟩
  case round =>
    obtain ⟨j, hj, rfl, hown, hB⟩ := hrel
    have HB := Lib.hid hB
    have HO := Lib.hid hown
    clear hB hown
    by_cases hlt : j < l.length
    · obtain ⟨g, rfl, hg, hcells⟩ := HA.out (by omega)
      obtain ⟨c0, c1⟩ := prCells_get l j hlt
      have hc0 : wr.cell? ⟨g, j * 2, none⟩ = some (encStr l[j].1) := (HB.out.cell (p := ⟨g, j * 2, none⟩) hg).trans (hcells _ _ c0)
      have hc1 : wr.cell? ⟨g, j * 2 + 1, none⟩ = some (encStr l[j].2) := (HB.out.cell (p := ⟨g, j * 2 + 1, none⟩) hg).trans (hcells _ _ c1)
      have HDS := Lib.hid (del_snoc l k j hlt)
      clear hcells c0 c1
      generalize l[j] = x at hc0 hc1 HDS
      have hdl : (J.del (l.take j) k).length ≤ j := by have := J.len_del (l.take j) k; rw [List.length_take] at this; omega
      by_cases hk : x.1 = k
      · have hd := HDS.out
        rw [if_pos hk, List.append_nil] at hd
        have HD := Lib.hid hd
        clear hd
        go_wp2_with fail
        go_roundw
        case rel => exact ⟨j + 1, by omega, by go_num, by rw [HD.out]; exact HO.out, HB.out⟩
        case measure => simp [intOf]; omega
      · have hd := HDS.out
        rw [if_neg hk] at hd
        have hkb : (x.1 == k) = false := by simpa using hk
        have HD := Lib.hid hd
        clear hd
        go_wp2_with (at_builtin; refine wpList_append_own_at _ rfl _ _ 41 rfl w.heap.size 47 i0 _ 2 32 Try.underlying41 hi hz0 hz1 hz2 rfl (by decide) _ _ _ rfl (HO.out.alloc _) ⟨wr.heap.size, 0, none⟩ 1 1 [encStr x.1, encStr x.2] rfl rfl (World.news_of_block (heap_alloc_new wr _)) (by simp [Value.oneCell', encStr]) (by unfold maxLen; omega) (by omega) (by have := HB.out.size; simp; omega) ?_)
        intro v' w1 hown' hg3 hnil3 hloc3
        have hb2 : Below w.heap.size w (wr.alloc (.cells #[encStr x.1, encStr x.2] 47)) := HB.out.alloc HB.out.size _
        have HB2 := Lib.hid (hb2.grown hg3 hb2.size (fun j hj => (HO.out.lt j hj).1))
        have ho2 : w1.ownsRow w.heap.size 47 2 v' (J.del (l.take (j + 1)) k).length (prCells (J.del (l.take (j + 1)) k)) := by
          rw [HD.out, prCells_app, List.length_append]; exact hown'
        have HO2 := Lib.hid ho2
        clear hb2 ho2 hown' hg3 hnil3 hloc3
        go_wp2_with fail
        go_roundw
        case rel => exact ⟨j + 1, by omega, by go_num, HO2.out, HB2.out⟩
        case measure => simp [intOf]; omega
    · obtain rfl : j = l.length := by omega
      have ho := HO.out
      rw [List.take_length] at ho
      have HO2 := Lib.hid ho
      clear ho
      go_wp2
      go_ret
      exact ⟨_, rfl, HO2.out, HB.out⟩
/-- A slice expression on pairs, at every world. -/
theorem run_slice_prs {A : Option Addr} {l : List (J.B × J.B)} {n c : Nat} (hn : l.length = n) (i j : Nat) (hij : i ≤ j) (hj : j ≤ n) (hc : n ≤ c) (low high : Option Value)
    (hlow : low = some (.int .i64 i) ∨ (low = none ∧ i = 0)) (hhigh : high = some (.int .i64 j) ∨ (high = none ∧ j = n)) (hA : ∀ b o, A = some ⟨b, o, none⟩ → o = 0) :
    ∃ A', (∀ w, (Instr.sliceAt 41 (.slice A n c) low high none).run Try.prog w = .ok (.slice A' (j - i) (c - i)) w) ∧ ∀ w, PrsAt w A l → PrsO w A' ((l.take j).drop i) := by
  have hb : ∀ w, (Instr.sliceBounds true n c low high none).run Try.prog w = .ok (i, j, c) w := by
    intro w
    have e1 : (0 : Int) ≤ (i : Int) := by omega
    have e2 : (i : Int) ≤ (j : Int) := by omega
    have e3 : (j : Int) ≤ (c : Int) := by omega
    have e0 : (0 : Int) ≤ (j : Int) := by omega
    rcases hlow with rfl | ⟨rfl, rfl⟩ <;> rcases hhigh with rfl | ⟨rfl, rfl⟩
    · simp [Instr.sliceBounds, run_sliceBound _ _ _ _ _ e1 e2, run_sliceBound _ _ _ _ _ e0 e3]
    · simp [Instr.sliceBounds, run_sliceBound _ _ _ _ _ e1 e2]
    · simp [Instr.sliceBounds, run_sliceBound _ _ _ _ _ e0 e3]
    · simp [Instr.sliceBounds]
  have hsz : ∀ w, (sizeOf (Try.prog.elem 41)).run Try.prog w = .ok 2 w := fun w => by kernel_rfl
  have hrun : ∀ w, (Instr.sliceAt 41 (.slice A n c) low high none).run Try.prog w = .ok (sliced A i j c 2) w := by
    intro w
    rw [run_sliceAt_slice _ _ _ _ _ _ Try.underlying41, run_slice_any _ _ _ _ _ Try.underlying41, hb]
    simp [Result.andThen, hsz]
  refine ⟨_, hrun, fun w h hlen => ?_⟩
  rw [List.length_drop, List.length_take] at hlen
  obtain ⟨g, rfl, hg, hcl⟩ := h (by omega)
  refine ⟨g, i * 2, ?_, hg, fun k u hu => ?_⟩
  · rw [if_neg (by omega)]; simp [add_mk]
  · rw [prCells_drop, List.getElem?_drop] at hu
    refine hcl _ _ ?_
    have hk := (List.getElem?_eq_some_iff.1 hu).1
    rw [← hu]
    conv => lhs; rw [← List.take_append_drop j l, prCells_app]
    rw [List.getElem?_append_left hk]
end Go.Proofs.Ythjjbaiijelhnaa
/- Law 30: has, put. -/
namespace Go.Proofs.Ythjjbaiijelhnaa
open Go.RowKit Go.Lib Go.Maps Go.WideMaps Go.Sort
set_option maxRecDepth 100000
theorem del_lt_iff (l : List (J.B × J.B)) (k : J.B) : decide ((J.del l k).length < l.length) = (J.look l k).isSome := by
  induction l with
  | nil => rfl
  | cons p t ih =>
    have hle := J.len_del t k
    unfold J.look J.del
    rw [List.filter_cons]
    by_cases h : p.1 = k
    · rw [if_neg (by simp [h]), if_pos h]
      simp only [Option.isSome_some, decide_eq_true_eq, List.length_cons]
      unfold J.del at hle; omega
    · rw [if_pos (by simp [h]), if_neg h, ← ih]
      simp only [List.length_cons, J.del]
      by_cases h2 : (List.filter (fun p => !p.1 == k) t).length < t.length <;> simp [h2]
theorem has_any (v : Value) (l : List (J.B × J.B)) (k : J.B) (w : World) (hv : Prs w NoM v l) (hl : l.length ≤ 1000000) :
    Calls Try.prog 55 #[v, encStr k] w fun e w' => e = .returned (.bool (J.look l k).isSome) ∧ Below w.heap.size w w' := by
  have HW := Lib.hid (without_any v l k w hv hl)
  obtain ⟨A, c, rfl, hlc, hat, hn, hoff⟩ := hv.slice_
  clear hv hat hn hoff
  have HD := Lib.hid (del_lt_iff l k)
  go_enter Try.func55, Try.ntmps55
  go_wp2_with fail
  refine HW.out.mono ?_
  rintro e w' ⟨v', rfl, hown, hb⟩
  obtain ⟨A', c', rfl⟩ := own_slice_len hown
  have HB := Lib.hid hb
  clear hown hb
  go_wp2
  go_ret
  exact ⟨ret_bool (by rw [← HD.out]), HB.out⟩
theorem tw_spec {α : Type} (f : α → Bool) : ∀ (L : List α), L.takeWhile f = L.take (L.takeWhile f).length ∧ L.dropWhile f = L.drop (L.takeWhile f).length ∧ (L.takeWhile f).length ≤ L.length ∧ (∀ j (h : j < L.length), j < (L.takeWhile f).length → f L[j] = true) ∧ (∀ h : (L.takeWhile f).length < L.length, f L[(L.takeWhile f).length] = false)
  | [] => ⟨rfl, rfl, Nat.le_refl _, fun j h => absurd h (by simp), fun h => absurd h (by simp)⟩
  | a :: t => by
    obtain ⟨h1, h2, h3, h4, h5⟩ := tw_spec f t
    by_cases ha : f a = true
    · rw [List.takeWhile_cons_of_pos ha, List.dropWhile_cons_of_pos ha]
      refine ⟨by rw [List.length_cons, List.take_succ_cons, ← h1], by rw [List.length_cons, List.drop_succ_cons, ← h2], by simp; exact h3, fun j hj hlt => ?_, fun h => ?_⟩
      · cases j with
        | zero => exact ha
        | succ j => exact h4 j (by simpa using hj) (by simpa using hlt)
      · exact h5 (by simpa using h)
    · rw [List.takeWhile_cons_of_neg ha, List.dropWhile_cons_of_neg ha]
      exact ⟨rfl, rfl, by simp, fun j hj hlt => absurd hlt (by simp), fun _ => by simpa using ha⟩
theorem bl_enc (x k : J.B) : Op.bytesLess (⟨x.toArray⟩ : ByteArray).toList (⟨k.toArray⟩ : ByteArray).toList = decide (x < k) := by
  rw [bytesLess_eq]; simp
theorem step_app_prs {ops : Array Oper} {o : Oper} {a : Act} {w : World} {K : Act → World → Prop} {Q : Exit → Act → World → Prop} {E : Prop} (hgd : o.guard = none) (s x : Operand) (ho : o.op = .call { callee := .builtin .append, args := #[s, x], argTypes := #[41, 41] })
    (base : Nat) (v : Value) (n : Nat) (l : List (J.B × J.B)) (hs : a.eval s = v) (hown : w.ownsRow base 47 2 v n (prCells l)) (A : Option Addr) (m c : Nat) (x' : List (J.B × J.B)) (hx : a.eval x = .slice A m c) (hr : PrsO w A x') (hm : x'.length = m)
    (hb : n + m ≤ 100000000) (hbase : base ≤ w.heap.size)
    (h : ∀ v' w', w'.ownsRow base 47 2 v' (n + m) (prCells (l ++ x')) → w.grownBy w' v.ownBlock → (v'.ownBlock = v.ownBlock ∨ v'.ownBlock = some w.heap.size) → K (a.put o.dst v') w') :
    if Region.wanted o (yielded ops a.tmps) = true then Oper.wp Try.prog o a w K Q else E := by
  have hw : Region.wanted o (yielded ops a.tmps) = true := by simp [Region.wanted, hgd]
  rw [if_pos hw]
  obtain ⟨v', w', hrun, h2, h3, h4⟩ := run_append_prs w base v n l hown A m c x' hr hm hb hbase o.type
  unfold Oper.wp execOp
  simp only [ho, resolve, invoke, builtin, Sem.run_bind, Sem.run_pure, Result.andThen_ok, List.map_toArray, List.map_cons, List.map_nil, hs, hx, hrun]
  exact h v' w' h2 h3 h4
theorem at_world {R : World → Prop} {W : World} (F : World → Prop) (hF : F W) (h : ∀ X, F X → R X) : R W := h W hF
theorem empty_row {base : Nat} (X : World) (hb : base ≤ X.heap.size) : (X.alloc (.cells #[] 47)).ownsRow base 47 2 (.slice (some ⟨X.heap.size, 0, none⟩) 0 0) 0 (prCells []) :=
  ⟨rfl, .inr ⟨X.heap.size, 0, #[], rfl, hb, heap_alloc_new X _, Nat.le_refl _, Nat.zero_le _, rfl, rfl⟩⟩
theorem tmp_prs (X : World) (k val : J.B) : PrsO (X.alloc (.cells #[encStr k, encStr val] 47)) (some ⟨X.heap.size, 0, none⟩) [(k, val)] := fun _ => by
  refine ⟨X.heap.size, 0, rfl, by simp, fun j u hu => ?_⟩
  rw [Nat.zero_add, cell_of_row _ X.heap.size j _ _ _ (heap_alloc_new X _)]
  rw [← hu]
  simp [prCells]
theorem PrsO.kept {w w' : World} {g : Nat} {l : List (J.B × J.B)} {row : Option Nat} (h : PrsO w (some ⟨g, 0, none⟩) l) (hg : w.grownBy w' row) (hne : some g ≠ row) : PrsO w' (some ⟨g, 0, none⟩) l := fun hn => by
  obtain ⟨g', o, e, h1, h2⟩ := h hn
  injection e with e
  injection e with e1 e2 e3
  subst e1 e2
  exact ⟨g, 0, rfl, Nat.lt_of_lt_of_le h1 hg.size, fun j u hu => (World.cell?_of_block (hg.block g h1 hne)).trans (h2 j u hu)⟩
theorem lput_fin {w wr X : World} {v : Value} {l L : List (J.B × J.B)} {k val : J.B} {T : Nat} (h1 : Below w.heap.size w wr) (h2 : J.ins l k val = L.take T ++ (k, val) :: L.drop T) (h3 : Below wr.heap.size wr X) (h4 : X.ownsRow wr.heap.size 47 2 v (0 + T + 1 + (L.length - T)) (prCells ([] ++ L.take T ++ [(k, val)] ++ L.drop T))) (hT : T ≤ L.length) :
    X.ownsRow w.heap.size 47 2 v (J.ins l k val).length (prCells (J.ins l k val)) ∧ Below w.heap.size w X := by
  have e : J.ins l k val = [] ++ L.take T ++ [(k, val)] ++ L.drop T := by rw [h2]; simp
  have e2 : (J.ins l k val).length = 0 + T + 1 + (L.length - T) := by rw [e]; simp; omega
  rw [e2, e]
  exact ⟨⟨h4.1, h4.2.imp id (fun ⟨g, cap, cur, q1, q2, q3⟩ => ⟨g, cap, cur, q1, Nat.le_trans h1.size q2, q3⟩)⟩, h1.trans (h3.mono h1.size)⟩
set_option maxHeartbeats 2000000 in
theorem lput_any (v : Value) (l : List (J.B × J.B)) (k val : J.B) (w : World) (hv : Prs w NoM v l) (hl : l.length ≤ 1000000) :
    Calls Try.prog 54 #[v, encStr k, encStr val] w fun e w' => ∃ v', e = .returned v' ∧ w'.ownsRow w.heap.size 47 2 v' (J.ins l k val).length (prCells (J.ins l k val)) ∧ Below w.heap.size w w' := by
  have HW := Lib.hid (without_any v l k w hv hl)
  obtain ⟨A, c, rfl, hlc, hat, hn, hoff⟩ := hv.slice_
  clear hv hat hn hoff
  have HINS := Lib.hid (show J.ins l k val = (J.del l k).takeWhile (fun p => decide (p.1 < k)) ++ (k, val) :: (J.del l k).dropWhile (fun p => decide (p.1 < k)) from rfl)
  have hdl := J.len_del l k
  generalize J.del l k = L at HW HINS hdl
  go_enter Try.func54, Try.ntmps54
  go_wp2_with fail
  refine HW.out.mono ?_
  rintro e w1 ⟨v', rfl, hown, hb⟩
  have hprs := own_prs (M := NoM) hown (fun k h => h.elim)
  obtain ⟨A1, c1, rfl, hc1, hat1, hn1, hoff1⟩ := hprs.slice_
  obtain ⟨t1, t2, t3, t4, t5⟩ := tw_spec (fun p : J.B × J.B => decide (p.1 < k)) L
  rw [t1, t2] at HINS
  generalize (L.takeWhile (fun p => decide (p.1 < k))).length = T at HINS t1 t2 t3 t4 t5
  have HO := Lib.hid hown
  have HB := Lib.hid hb
  have HA1 := Lib.hid hat1
  have T4 := Lib.hid t4
  have T5 := Lib.hid t5
  have HOF := Lib.hid hoff1
  clear hprs hown hb hat1 t1 t2 t4 t5 hoff1 hn1
  go_wp2_with fail
  go_loopw [7] (fun i wr => ∃ j : Nat, j ≤ T ∧ i = .int .i64 j ∧ wr = w1) (fun i _ => T - (intOf i).toNat)
  case atStart => exact ⟨0, Nat.zero_le _, rfl, rfl⟩
  case round =>
    obtain ⟨j, hj, rfl, rfl⟩ := hrel
    by_cases hjT : j < T
    · have hlt : j < L.length := by omega
      obtain ⟨g, rfl, hg, hcells⟩ := HA1.out (by omega)
      obtain ⟨c0, _⟩ := prCells_get L j hlt
      have hc0 : wr.cell? ⟨g, j * 2, none⟩ = some (encStr L[j].1) := hcells _ _ c0
      have hbl := bytesLess_eq L[j].1 k
      have h4 := T4.out j hlt hjT
      rw [h4] at hbl
      clear hcells c0
      generalize L[j] = x at hc0 hbl h4
      go_wp2_with fail
      go_roundw
      case rel => exact ⟨j + 1, by omega, by go_num, trivial⟩
      case measure => simp [intOf]; omega
    · obtain rfl : j = T := by omega
      obtain ⟨A2, s1, s2⟩ := run_slice_prs (c := c1) (l := L) rfl 0 j (Nat.zero_le _) t3 hc1 none _ (.inr ⟨rfl, rfl⟩) (.inl rfl) HOF.out
      obtain ⟨A3, s3, s4⟩ := run_slice_prs (c := c1) (l := L) rfl j L.length t3 (Nat.le_refl _) hc1 _ none (.inl rfl) (.inr ⟨rfl, rfl⟩) HOF.out
      rw [List.drop_zero] at s2
      rw [List.take_length] at s4
      have S2 := Lib.hid (s2 _ HA1.out)
      have S4 := Lib.hid (s4 _ HA1.out)
      clear s2 s4
      by_cases hlt : j < L.length
      case' pos =>
        obtain ⟨g, rfl, hg, hcells⟩ := HA1.out (by omega)
        obtain ⟨c0, _⟩ := prCells_get L j hlt
        have hc0 : wr.cell? ⟨g, j * 2, none⟩ = some (encStr L[j].1) := hcells _ _ c0
        have hbl := bytesLess_eq L[j].1 k
        have h5 := T5.out hlt
        rw [h5] at hbl
        clear hcells c0
        generalize L[j] = x at hc0 hbl h5
        go_upto_region 5 with fail
        clear hc0 hbl h5
      case' neg =>
        go_upto_region 5 with fail
      all_goals
        refine wp_region_pl 14 (.rd 1 (.rd 2 (.rd 3 (.rd 5 (.rd 6 (.rd 7 (.rd 10 (.rd 11 (.rd 12 (.two 0 (.two 4 (.wr 8 (.wr 9 (.wr 13 .fin))) 8 (.wr 4 (.wr 9 (.wr 13 .fin)))) 8 (.wr 0 (.wr 4 (.wr 9 (.wr 13 .fin)))))))))))))) (fun _ => True) (by kernel_rfl) (by kernel_rfl) (fun c a d v w h => by cases d <;> exact h) trivial ?_
        repeat
          refine wpPl_read (v := ?_) (by rfl) (by rfl) (fun w' _ => ?_) (fun K hK => ?_)
          rotate_left
          · go_simp
            try with_reducible exact s1 _
            try with_reducible exact s3 _
            try with_reducible rfl
          go_simp
          refine hK _ ?_
          clear hK K
        -- ORDERS
        refine wpPl_two (by rfl) (by rfl) (fun K hK => ?_) (fun K hK => ?_)
        · go_simp
          refine hK.out _ _ trivial ?_
          clear hK K
          refine at_world (fun X => X.ownsRow wr.heap.size 47 2 (.slice (some ⟨wr.heap.size, 0, none⟩) 0 0) 0 (prCells []) ∧ Below wr.heap.size wr X) ⟨(empty_row wr (Nat.le_refl _)), ((Below.refl _ wr).alloc (Nat.le_refl _) _).drew⟩ ?_
          rintro Xa ⟨ho0, hb0⟩
          refine wpPl_two (by rfl) (by rfl) (fun K hK => ?_) (fun K hK => ?_)
          · refine step_app_prs (by rfl) _ _ (by rfl) wr.heap.size (.slice (some ⟨wr.heap.size, 0, none⟩) 0 0) 0 [] (by rfl) ho0 A2 j c1 (L.take j) (by rfl) (S2.out.below hb0) (by rw [List.length_take]; omega) (by omega) hb0.size ?_
            intro v1 X4 ho4 hg4 hat4
            have hb4 := hb0.grown hg4 hb0.size (fun k e => (ho0.lt k e).1)
            refine hK.out _ _ trivial ?_
            clear hK K
            refine wpPl_write (by rfl) (fun K hK => ?_)
            go_simp
            refine hK.out _ _ trivial ?_
            clear hK K
            refine at_world (fun X => X.ownsRow wr.heap.size 47 2 v1 (0 + j) (prCells ([] ++ L.take j)) ∧ Below wr.heap.size wr X ∧ PrsO X (some ⟨X4.heap.size, 0, none⟩) [(k, val)]) ⟨ho4.alloc _, hb4.alloc hb4.size _, tmp_prs X4 k val⟩ ?_
            rintro Xb ⟨ho4, hb4, ht8⟩
            refine wpPl_write (by rfl) (fun K hK => ?_)
            refine step_app_prs (by rfl) _ _ (by rfl) wr.heap.size v1 (0 + j) ([] ++ L.take j) (by rfl) ho4 (some ⟨X4.heap.size, 0, none⟩) 1 1 [(k, val)] (by rfl) ht8 rfl (by omega) hb4.size ?_
            intro v2 X9 ho9 hg9 hat9
            have hb9 := hb4.grown hg9 hb4.size (fun k e => (ho4.lt k e).1)
            refine hK.out _ _ trivial ?_
            clear hK K
            refine wpPl_write (by rfl) (fun K hK => ?_)
            refine step_app_prs (by rfl) _ _ (by rfl) wr.heap.size v2 (0 + j + 1) ([] ++ L.take j ++ [(k, val)]) (by rfl) ho9 A3 (L.length - j) (c1 - j) (L.drop j) (by rfl) (S4.out.below hb9) (by rw [List.length_drop]) (by omega) hb9.size ?_
            intro v3 X13 ho13 hg13 hat13
            have hb13 := hb9.grown hg13 hb9.size (fun k e => (ho9.lt k e).1)
            refine hK.out _ _ trivial ?_
            clear hK K
            have HF := Lib.hid (lput_fin HB.out HINS.out hb13 ho13 (by omega))
            clear ho0 hb0 ho4 hb4 hg4 hat4 ho9 hg9 hat9 hb9 ho13 hg13 hat13 hb13 ht8
            show wpList _ _ _ _ _ _
            go_wp2
            go_ret
            exact ⟨_, rfl, HF.out⟩
          · go_simp
            refine hK.out _ _ trivial ?_
            clear hK K
            refine at_world (fun X => X.ownsRow wr.heap.size 47 2 (.slice (some ⟨wr.heap.size, 0, none⟩) 0 0) 0 (prCells []) ∧ Below wr.heap.size wr X ∧ PrsO X (some ⟨Xa.heap.size, 0, none⟩) [(k, val)]) ⟨ho0.alloc _, hb0.alloc hb0.size _, tmp_prs Xa k val⟩ ?_
            have hne : Xa.heap.size ≠ wr.heap.size := by have := (ho0.lt wr.heap.size rfl).2; omega
            rintro Xb ⟨ho0, hb0, ht8⟩
            refine wpPl_write (by rfl) (fun K hK => ?_)
            refine step_app_prs (by rfl) _ _ (by rfl) wr.heap.size (.slice (some ⟨wr.heap.size, 0, none⟩) 0 0) 0 [] (by rfl) ho0 A2 j c1 (L.take j) (by rfl) (S2.out.below hb0) (by rw [List.length_take]; omega) (by omega) hb0.size ?_
            intro v1 X4 ho4 hg4 hat4
            have hb4 := hb0.grown hg4 hb0.size (fun k e => (ho0.lt k e).1)
            have ht8 := ht8.kept hg4 (by simp [Value.ownBlock]; omega)
            refine hK.out _ _ trivial ?_
            clear hK K
            refine wpPl_write (by rfl) (fun K hK => ?_)
            refine step_app_prs (by rfl) _ _ (by rfl) wr.heap.size v1 (0 + j) ([] ++ L.take j) (by rfl) ho4 (some ⟨Xa.heap.size, 0, none⟩) 1 1 [(k, val)] (by rfl) ht8 rfl (by omega) hb4.size ?_
            intro v2 X9 ho9 hg9 hat9
            have hb9 := hb4.grown hg9 hb4.size (fun k e => (ho4.lt k e).1)
            refine hK.out _ _ trivial ?_
            clear hK K
            refine wpPl_write (by rfl) (fun K hK => ?_)
            refine step_app_prs (by rfl) _ _ (by rfl) wr.heap.size v2 (0 + j + 1) ([] ++ L.take j ++ [(k, val)]) (by rfl) ho9 A3 (L.length - j) (c1 - j) (L.drop j) (by rfl) (S4.out.below hb9) (by rw [List.length_drop]) (by omega) hb9.size ?_
            intro v3 X13 ho13 hg13 hat13
            have hb13 := hb9.grown hg13 hb9.size (fun k e => (ho9.lt k e).1)
            refine hK.out _ _ trivial ?_
            clear hK K
            have HF := Lib.hid (lput_fin HB.out HINS.out hb13 ho13 (by omega))
            clear ho0 hb0 ho4 hb4 hg4 hat4 ho9 hg9 hat9 hb9 ho13 hg13 hat13 hb13 ht8
            show wpList _ _ _ _ _ _
            go_wp2
            go_ret
            exact ⟨_, rfl, HF.out⟩
        · go_simp
          refine hK.out _ _ trivial ?_
          clear hK K
          refine at_world (fun X => Below wr.heap.size wr X ∧ PrsO X (some ⟨wr.heap.size, 0, none⟩) [(k, val)] ∧ wr.heap.size < X.heap.size) ⟨((Below.refl _ wr).alloc (Nat.le_refl _) _).drew, tmp_prs wr k val, by simp⟩ ?_
          rintro Xb ⟨hb8, ht8, hs8⟩
          refine wpPl_write (by rfl) (fun K hK => ?_)
          go_simp
          refine hK.out _ _ trivial ?_
          clear hK K
          refine at_world (fun X => X.ownsRow wr.heap.size 47 2 (.slice (some ⟨Xb.heap.size, 0, none⟩) 0 0) 0 (prCells []) ∧ Below wr.heap.size wr X ∧ PrsO X (some ⟨wr.heap.size, 0, none⟩) [(k, val)]) ⟨empty_row Xb hb8.size, hb8.alloc hb8.size _, ht8.below ((Below.refl _ _).alloc (Nat.le_refl _) _)⟩ ?_
          rintro Xa ⟨ho0, hb0, ht8⟩
          refine wpPl_write (by rfl) (fun K hK => ?_)
          refine step_app_prs (by rfl) _ _ (by rfl) wr.heap.size (.slice (some ⟨Xb.heap.size, 0, none⟩) 0 0) 0 [] (by rfl) ho0 A2 j c1 (L.take j) (by rfl) (S2.out.below hb0) (by rw [List.length_take]; omega) (by omega) hb0.size ?_
          intro v1 X4 ho4 hg4 hat4
          have hb4 := hb0.grown hg4 hb0.size (fun k e => (ho0.lt k e).1)
          have ht8 := ht8.kept hg4 (by simp [Value.ownBlock]; omega)
          refine hK.out _ _ trivial ?_
          clear hK K
          refine wpPl_write (by rfl) (fun K hK => ?_)
          refine step_app_prs (by rfl) _ _ (by rfl) wr.heap.size v1 (0 + j) ([] ++ L.take j) (by rfl) ho4 (some ⟨wr.heap.size, 0, none⟩) 1 1 [(k, val)] (by rfl) ht8 rfl (by omega) hb4.size ?_
          intro v2 X9 ho9 hg9 hat9
          have hb9 := hb4.grown hg9 hb4.size (fun k e => (ho4.lt k e).1)
          refine hK.out _ _ trivial ?_
          clear hK K
          refine wpPl_write (by rfl) (fun K hK => ?_)
          refine step_app_prs (by rfl) _ _ (by rfl) wr.heap.size v2 (0 + j + 1) ([] ++ L.take j ++ [(k, val)]) (by rfl) ho9 A3 (L.length - j) (c1 - j) (L.drop j) (by rfl) (S4.out.below hb9) (by rw [List.length_drop]) (by omega) hb9.size ?_
          intro v3 X13 ho13 hg13 hat13
          have hb13 := hb9.grown hg13 hb9.size (fun k e => (ho9.lt k e).1)
          refine hK.out _ _ trivial ?_
          clear hK K
          have HF := Lib.hid (lput_fin HB.out HINS.out hb13 ho13 (by omega))
          clear ho0 hb0 ho4 hb4 hg4 hat4 ho9 hg9 hat9 hb9 ho13 hg13 hat13 hb13 ht8
          show wpList _ _ _ _ _ _
          go_wp2
          go_ret
          exact ⟨_, rfl, HF.out⟩
end Go.Proofs.Ythjjbaiijelhnaa
/- Law 30: a store is kept where a block turns that holds no bytes and is none of its own; the law's model in memory; key. -/
namespace Go.Proofs.Ythjjbaiijelhnaa
open Go.RowKit Go.Lib Go.Maps Go.WideMaps Go.Sort
set_option maxRecDepth 100000
/-- A block that holds no bytes. -/
def NoBy (w : World) (q : Nat) : Prop := ∀ o (u : UInt8), w.cell? ⟨q, o, none⟩ ≠ some (u8 u)
/-- Nothing old has turned but, at most, a block without bytes that is not in M. -/
structure Oth (M : Nat → Prop) (w w' : World) : Prop where
  os : w'.os = w.os
  tape : w'.tape = w.tape
  output : w'.output = w.output
  size : w.heap.size ≤ w'.heap.size
  keep : ∀ k, k < w.heap.size → M k → w'.heap[k]? = w.heap[k]?
  bytes : ∀ k, k < w.heap.size → ¬ NoBy w k → w'.heap[k]? = w.heap[k]?
theorem Oth.of_grown {M : Nat → Prop} {w w' : World} {row : Option Nat} (hg : w.grownBy w' row) (h : ∀ q, row = some q → ¬ M q ∧ NoBy w q) : Oth M w w' :=
  ⟨hg.os, hg.tape, hg.output, hg.size, fun k hk hm => hg.block k hk (fun e => (h k e.symm).1 hm), fun k hk hn => hg.block k hk (fun e => hn (h k e.symm).2)⟩
theorem Oth.of_below {M : Nat → Prop} {w w' : World} (h : Below w.heap.size w w') : Oth M w w' := ⟨h.os, h.tape, h.output, h.size, fun k hk _ => h.block k hk, fun k hk _ => h.block k hk⟩
section
variable {w w' : World} {M : Nat → Prop} {v : Value} {l : List UInt8}
theorem By.oth {A : Option Addr} {n : Nat} (h : By w M A n l) (ho : Oth M w w') : By w' M A n l :=
  ⟨h.1, fun hn => by
    obtain ⟨b, o, e, hb, hM, hc⟩ := h.2 hn
    have hl := h.1
    have hk : w'.heap[b]? = w.heap[b]? := ho.bytes b hb (fun hno => hno (o + 0) _ (hc 0 (by omega)))
    exact ⟨b, o, e, Nat.lt_of_lt_of_le hb ho.size, hM, fun j hj => (World.cell?_of_block hk).trans (hc j hj)⟩⟩
theorem Slc.oth (h : Slc w M v l) (ho : Oth M w w') : Slc w' M v l := by
  rcases h with h | ⟨b, o, e, h1, h2, hm, h3⟩
  · exact .inl h
  · exact .inr ⟨b, o, e, h1, Nat.lt_of_lt_of_le h2 ho.size, hm, h3.oth ho⟩
theorem Oth.sub {M2 : Nat → Prop} (ho : Oth M w w') (h : ∀ k, M2 k → M k) : Oth M2 w w' := ⟨ho.os, ho.tape, ho.output, ho.size, fun k hk hm => ho.keep k hk (h k hm), ho.bytes⟩
theorem Sl.oth (h : Sl w M v l) (ho : Oth M w w') : Sl w' M v l := by
  rcases h with h | ⟨b, o, c, e, h0, h2, h3⟩
  · exact .inl h
  · exact .inr ⟨b, o, c, e, h0, Nat.lt_of_lt_of_le h2 ho.size, h3.oth ho⟩
theorem MapR.oth {b : Nat} {m : List (J.B × J.B)} (h : MapR w M b m) (ho : Oth M w w') (hb : M b) : MapR w' M b m := by
  have hl := h.lt
  obtain ⟨D, h1, h2, h3, h4⟩ := h
  refine ⟨D, ?_, h2, h3, fun k l hk => ?_⟩
  · obtain ⟨es, clock, g1, g2⟩ := h1
    exact ⟨es, clock, (ho.keep b hl hb).trans g1, g2⟩
  · obtain ⟨v, d, g1, g2, g3⟩ := h4 k l hk
    exact ⟨v, d, g1, g2, g3.oth ho⟩
theorem ChRow.oth {base : Nat} {L : List J.Chg} (h : ChRow w M base v L) (ho : Oth M w w') (hm : ∀ k, v.ownBlock = some k → M k) : ChRow w' M base v L := by
  obtain ⟨vs, h1, h2, h3⟩ := h
  refine ⟨vs, h1, own_same h2 (fun k e => ho.keep k (h2.lt k e).2 (hm k e)), fun i hi hi' => ?_⟩
  have := h3 i hi hi'
  exact this.oth ⟨ho.os, ho.tape, ho.output, ho.size, fun k hk h => ho.keep k hk (h.elim id (hm k)), ho.bytes⟩
theorem WrRow.oth {L : List J.Wr} (h : WrRow w M v L) (ho : Oth M w w') : WrRow w' M v L := by
  obtain ⟨vs, h1, h2, h3, h4⟩ := h
  exact ⟨vs, h1, own_same h2 (fun k e => ho.keep k (h2.lt k e).2 (h3 k e)), h3, fun i hi hi' => (h4 i hi hi').oth ho⟩
theorem Area.oth (h : Area w M v l) (ho : Oth M w w') : Area w' M v l := by
  rcases h with ⟨h1, h2⟩ | h
  · exact .inl ⟨own_same h1 (fun k e => ho.keep k (h1.lt k e).2 (h2 k e)), h2⟩
  · exact .inr (h.oth ho)
end
theorem Parts.oth {w w' : World} {M : Nat → Prop} {s : J.St} {bn : Nat} {bw : Option Nat} {ch wr b0 b1 b2 b3 d0 d1 d2 d3 : Value} (h : Parts w M s bn bw ch wr b0 b1 b2 b3 d0 d1 d2 d3) (ho : Oth M w w') : Parts w' M s bn bw ch wr b0 b1 b2 b3 d0 d1 d2 d3 := by
  refine ⟨h.now.oth ho h.mbn, h.mbn, ?_, h.chs.oth ho h.mch, h.mch, h.wrs.oth ho, h.f0.oth ho, h.f1.oth ho, h.f2.oth ho, h.f3.oth ho, h.e0.oth ho, h.e1.oth ho, h.e2.oth ho, h.e3.oth ho, h.dd⟩
  cases bw with
  | none => exact h.was
  | some b =>
    obtain ⟨g1, g2, g3, g4⟩ := h.was
    exact ⟨g1, g2.oth ho g3, g3, g4⟩
theorem StoreR.oth {w w' : World} {p : Nat} {M : Nat → Prop} {s : J.St} (h : StoreR w p M s) (ho : Oth M w w') : StoreR w' p M s := by
  obtain ⟨bn, bw, ch, wr, b0, b1, b2, b3, d0, d1, d2, d3, h1, h2, h3, h4⟩ := h
  exact ⟨bn, bw, ch, wr, b0, b1, b2, b3, d0, d1, d2, d3, (ho.keep p (Array.getElem?_eq_some_iff.1 h1).1 h2).trans h1, h2, h3.oth ho, h4⟩
/-- The law's model. -/
structure LM where
  now : List (J.B × J.B)
  was : List (J.B × J.B)
  opn : Bool
  commits : Nat
/-- The model's cells at block q; M: the store's blocks. -/
def ModR (w : World) (q : Nat) (M : Nat → Prop) (m : LM) : Prop :=
  ∃ nv wv, w.heap[q]? = some (.cells #[nv, wv, .bool m.opn, .int .i64 (m.commits : Nat)] 69 (0, 0)) ∧ ¬ M q ∧ Prs w M nv m.now ∧ Prs w M wv m.was
theorem ModR.step {w w' : World} {q : Nat} {M M' : Nat → Prop} {m : LM} (h : ModR w q M m) (hs : Step M M' w w') : ModR w' q M' m := by
  obtain ⟨nv, wv, h1, h2, h3, h4⟩ := h
  have hq := (Array.getElem?_eq_some_iff.1 h1).1
  exact ⟨nv, wv, (hs.block q hq h2).trans h1, fun h => h2 (hs.sub q hq h), h3.step hs, h4.step hs⟩
theorem ModR.lt {w : World} {q : Nat} {M : Nat → Prop} {m : LM} (h : ModR w q M m) : q < w.heap.size := by
  obtain ⟨nv, wv, h1, _⟩ := h
  exact (Array.getElem?_eq_some_iff.1 h1).1
theorem Prs.shape {w : World} {M : Nat → Prop} {v : Value} {l : List (J.B × J.B)} (h : Prs w M v l) : ∃ A n c, v = .slice A n c := by
  obtain ⟨A, c, e, _⟩ := h.slice_
  exact ⟨A, _, c, e⟩
theorem ModR.noBy {w : World} {q : Nat} {M : Nat → Prop} {m : LM} (h : ModR w q M m) : NoBy w q := by
  obtain ⟨nv, wv, h1, _, h3, h4⟩ := h
  obtain ⟨A, n, c, rfl⟩ := h3.shape
  obtain ⟨A', n', c', rfl⟩ := h4.shape
  intro o u e
  rw [cell_of_row w q o _ _ _ h1] at e
  rcases o with _ | _ | _ | _ | o <;> simp at e
/-- Pairs are kept where a block turns that holds no strings in its cells. -/
theorem Prs.mod {w w' : World} {q : Nat} {M : Nat → Prop} {v : Value} {l : List (J.B × J.B)} (h : Prs w M v l) (hno : ∀ o (u : J.B), w.cell? ⟨q, o, none⟩ ≠ some (encStr u)) (hg : w.grownBy w' (some q)) : Prs w' M v l := by
  rcases h with h | ⟨g, c, e, h1, h2, h3, h4⟩
  · exact .inl h
  · refine .inr ⟨g, c, e, h1, Nat.lt_of_lt_of_le h2 hg.size, h3, fun j u hu => ?_⟩
    have hne : g ≠ q := by
      rintro rfl
      cases l with
      | nil => simp [prCells] at hu
      | cons a t => exact hno 0 a.1 (h4 0 _ rfl)
    exact (World.cell?_of_block (hg.block g h2 (fun e => hne (by injection e)))).trans (h4 j u hu)
theorem mod_noStr {w : World} {q : Nat} {nv wv : Value} {b : Bool} {n : Int} {t : TypeId} (h1 : w.heap[q]? = some (.cells #[nv, wv, .bool b, .int .i64 n] t (0, 0))) (h3 : ∃ A n c, nv = .slice A n c) (h4 : ∃ A n c, wv = .slice A n c) : ∀ o (u : J.B), w.cell? ⟨q, o, none⟩ ≠ some (encStr u) := by
  obtain ⟨A, n, c, rfl⟩ := h3
  obtain ⟨A', n', c', rfl⟩ := h4
  intro o u e
  rw [cell_of_row w q o _ _ _ h1] at e
  rcases o with _ | _ | _ | _ | o <;> simp [encStr] at e
/-- The model's own block turns. -/
theorem ModR.turn {w w' : World} {q : Nat} {M : Nat → Prop} {m : LM} {nv wv : Value} {l1 l2 : List (J.B × J.B)} {b : Bool} {n : Nat} (h : ModR w q M m) (hg : w.grownBy w' (some q)) (hrow : w'.heap[q]? = some (.cells #[nv, wv, .bool b, .int .i64 n] 69 (0, 0)))
    (h1 : Prs w M nv l1) (h2 : Prs w M wv l2) : ModR w' q M ⟨l1, l2, b, n⟩ ∧ Oth M w w' := by
  have hnb := h.noBy
  obtain ⟨nv0, wv0, g1, g2, g3, g4⟩ := h
  have hno := mod_noStr g1 g3.shape g4.shape
  exact ⟨⟨nv, wv, hrow, g2, h1.mod hno hg, h2.mod hno hg⟩, Oth.of_grown hg (fun k e => by injection e with e; subst e; exact ⟨g2, hnb⟩)⟩
/-- One of eight keys. -/
def keyL (n : Nat) : J.B := [[97], [98], [97, 98], [97, 98, 99], [98, 47, 49], [98, 47, 50], [99], List.replicate 300 107].getD (n % 8) []
theorem keyL_ok (n : Nat) : keyL n ≠ [] ∧ (keyL n).length ≤ 300 := by
  unfold keyL
  have h : n % 8 < 8 := Nat.mod_lt _ (by decide)
  generalize n % 8 = k at h
  match k, h with
  | 0, _ => decide
  | 1, _ => decide
  | 2, _ => decide
  | 3, _ => decide
  | 4, _ => decide
  | 5, _ => decide
  | 6, _ => decide
  | 7, _ => exact ⟨by decide, by simp⟩
theorem repeatL_one' (b : UInt8) (n : Nat) : Lib.repeatL [b] n = List.replicate n b := by
  induction n with
  | zero => rfl
  | succ n ih => simp [Lib.repeatL, List.replicate_succ] at *; try exact ih
theorem key_any (n : Nat) (w : World) (hn : n < 256) :
    Calls Try.prog 53 #[.int .u8 n] w fun e w' => e = .returned (encStr (keyL n)) ∧ Below w.heap.size w w' := by
  have HR := Lib.hid (Try.strings_Repeat ⟨#[107]⟩ 300 w (by decide) (by decide))
  have hlt : n % 8 < 8 := Nat.mod_lt _ (by decide)
  have hk : (n : Int).tmod 8 = ((n % 8 : Nat) : Int) := rfl
  have HK := Lib.hid (show keyL n = [[97], [98], [97, 98], [97, 98, 99], [98, 47, 49], [98, 47, 50], [99], List.replicate 300 107].getD (n % 8) [] from rfl)
  generalize n % 8 = k at hlt hk HK
  go_enter Try.func53, Try.ntmps53
  go_wp2_with fail
  refine HR.out.mono ?_
  rintro e w1 ⟨rfl, hb⟩
  have HB := Lib.hid hb
  clear hb
  rw [show Lib.repeatL [107] 300 = List.replicate 300 107 from repeatL_one' 107 300]
  generalize List.replicate 300 (107 : UInt8) = big at HK
  rcases (show k = 0 ∨ k = 1 ∨ k = 2 ∨ k = 3 ∨ k = 4 ∨ k = 5 ∨ k = 6 ∨ k = 7 by omega) with rfl | rfl | rfl | rfl | rfl | rfl | rfl | rfl
  all_goals
    go_wp2_with fail
    go_ret
    exact ⟨by rw [HK.out]; rfl, HB.out.alloc HB.out.size _⟩
end Go.Proofs.Ythjjbaiijelhnaa
/- Law 30: agrees. -/
namespace Go.Proofs.Ythjjbaiijelhnaa
open Go.RowKit Go.Lib Go.Maps Go.WideMaps Go.Sort
set_option maxRecDepth 100000
theorem hasPrefix_nil (l : List UInt8) : Lib.hasPrefix l (⟨#[]⟩ : ByteArray).data.toList = true := by cases l <;> rfl
theorem keysOf_all (m : List (J.B × J.B)) : keysOf m ⟨#[]⟩ = m.map (·.1) := by
  unfold keysOf
  rw [List.filter_eq_self]
  intro k _
  exact hasPrefix_nil k
theorem Slc.by_ {w : World} {M : Nat → Prop} {v : Value} {l : List UInt8} (h : Slc w M v l) : ∃ A, v = .slice A l.length l.length ∧ By w M A l.length l := by
  rcases h with ⟨rfl, rfl⟩ | ⟨b, o, rfl, _, _, _, h3⟩
  · exact ⟨none, rfl, By.nil_⟩
  · exact ⟨_, rfl, h3⟩
set_option maxHeartbeats 2000000 in
theorem agrees_any (p : Nat) (M : Nat → Prop) (s : J.St) (v : Value) (w : World) (h : StoreR w p M s) (hv : Prs w NoM v s.now) (hl : s.now.length ≤ 1000000) (hval : ∀ q ∈ s.now, q.1.length ≤ 1000 ∧ q.2.length ≤ 100000) :
    Calls Try.prog 23 #[.pointer (some ⟨p, 0, none⟩), v, .int .i64 (s.commits : Nat)] w fun e w' => e = .returned (.bool true) ∧ Below w.heap.size w w' := by
  have hasc : J.Asc s.now := by
    obtain ⟨bn, bw, ch, wr, b0, b1, b2, b3, d0, d1, d2, d3, h1, h2, h3, h4⟩ := h
    exact h3.now.elim fun _ h => h.2.1
  obtain ⟨A, c, rfl, hlc, hat, _, _⟩ := hv.slice_
  have H := Lib.hid h
  have HAT := Lib.hid hat
  have HKY := Lib.hid (keys_any p ⟨#[]⟩ M s w h (by omega))
  have HASC := Lib.hid hasc
  have HVAL := Lib.hid hval
  clear h hv hat hasc hval
  rw [keysOf_all, List.length_map] at HKY
  have HLM := Lib.hid (show (s.now.map (·.1)).length = s.now.length from List.length_map _)
  have HGT := Lib.hid (fun w1 (hb : Below w.heap.size w w1) (k : J.B) (hk : k.length ≤ 1000) (hs : ∀ l, J.look s.now k = some l → l.length ≤ 90000000) => getS_any p M s ⟨k.toArray⟩ w1 (H.out.below hb) (by rw [show (⟨k.toArray⟩ : ByteArray).size = k.length by simp [ByteArray.size]]; unfold maxLen; omega) hs)
  have HCM := Lib.hid (fun w1 (hb : Below w.heap.size w w1) => commits_any p M s w1 (H.out.below hb))
  generalize s.commits = cm at HCM
  go_enter Try.func23, Try.ntmps23
  go_wp2_with fail
  refine HKY.out.mono ?_
  rintro e w1 ⟨A1, rfl, hst, _, hb1⟩
  have HST := Lib.hid hst
  have HB1 := Lib.hid hb1
  clear hst hb1
  go_wp2_with fail
  refine (HCM.out _ HB1.out).mono ?_
  rintro e w2 ⟨rfl, rfl⟩
  go_wp2_with fail
  go_loopw [8] (fun i wr => ∃ j : Nat, j ≤ s.now.length ∧ i = .int .i64 j ∧ Below w1.heap.size w1 wr) (fun i _ => s.now.length - (intOf i).toNat)
  case atStart => exact ⟨0, Nat.zero_le _, rfl, Below.refl _ _⟩
  case round =>
    obtain ⟨j, hj, rfl, hB⟩ := hrel
    have HB := Lib.hid hB
    clear hB
    by_cases hlt : j < s.now.length
    · obtain ⟨g, rfl, hg, hcells⟩ := HAT.out (by omega)
      obtain ⟨g1, rfl, hg1, hks⟩ := HST.out (by rw [HLM.out]; omega)
      obtain ⟨c0, c1⟩ := prCells_get s.now j hlt
      have HBW := Lib.hid (HB1.out.trans (HB.out.mono HB1.out.size))
      have hc0 := (HBW.out.cell (p := ⟨g, j * 2, none⟩) hg).trans (hcells _ _ c0)
      have hc1 := (HBW.out.cell (p := ⟨g, j * 2 + 1, none⟩) hg).trans (hcells _ _ c1)
      have hck := (HB.out.cell (p := ⟨g1, j, none⟩) hg1).trans (hks j (by rw [HLM.out]; exact hlt))
      rw [List.getElem_map] at hck
      have hmem := List.getElem_mem hlt
      obtain ⟨z1, z2⟩ := HVAL.out _ hmem
      have hlook := J.look_of_mem _ _ _ HASC.out (show (s.now[j].1, s.now[j].2) ∈ s.now from hmem)
      generalize s.now[j].1 = kk at hc0 hck hlook z1
      generalize s.now[j].2 = vv at hc1 hlook z2
      have hg0 := HGT.out wr HBW.out kk z1 (fun l hl => by rw [hlook] at hl; injection hl with hl; subst hl; omega)
      rw [hlook] at hg0
      have HG := Lib.hid hg0
      have HGL := Lib.hid hg
      have HG1L := Lib.hid hg1
      clear hg0 hcells hks c0 c1 hmem hlook hg hg1
      go_wp2_with fail
      refine HG.out.mono ?_
      rintro e w3 ⟨v3, rfl, hsl, hb3⟩
      obtain ⟨A3, rfl, hby⟩ := hsl.by_
      have hc0 := (hb3.cell (p := ⟨g, j * 2, none⟩) (Nat.lt_of_lt_of_le HGL.out HBW.out.size)).trans hc0
      have hc1 := (hb3.cell (p := ⟨g, j * 2 + 1, none⟩) (Nat.lt_of_lt_of_le HGL.out HBW.out.size)).trans hc1
      have hck := (hb3.cell (p := ⟨g1, j, none⟩) (Nat.lt_of_lt_of_le HG1L.out HB.out.size)).trans hck
      have hconv : ∀ n, (convert 22 9 (.slice A3 vv.length vv.length)).run Try.prog (w3.drewN n) = .ok (.string ⟨vv.toArray⟩) (w3.drewN n) := fun n => run_str_by (M := NoM) (hby.noM.drewN n)
      have HB3 := Lib.hid (HB.out.trans (hb3.mono HB.out.size))
      clear hsl hby hb3
      go_wp2_with fail
      go_quiet (fail)
      go_wp2_with fail
      go_roundw
      case rel => exact ⟨j + 1, by omega, by go_num, ⟨HB3.out.os, HB3.out.tape, HB3.out.output, HB3.out.size, HB3.out.block⟩⟩
      case measure => simp [intOf]; omega
    · obtain rfl : j = s.now.length := by omega
      go_wp2
      go_ret
      exact ⟨rfl, HB1.out.trans (HB.out.mono HB1.out.size)⟩
end Go.Proofs.Ythjjbaiijelhnaa
/- Law 30, the plain half of does: what an act makes of a store and of the law's model; the budget of a list of acts. -/
namespace Go.Proofs.Ythjjbaiijelhnaa
namespace J
/-- The bytes of all values. -/
def vsum : List (B × B) → Nat
  | [] => 0
  | p :: t => p.2.length + vsum t
theorem vsum_app (a b : List (B × B)) : vsum (a ++ b) = vsum a + vsum b := by
  induction a with
  | nil => simp [vsum]
  | cons p t ih => simp only [List.cons_append, vsum, ih]; omega
theorem vsum_filter (f : B × B → Bool) (m : List (B × B)) : vsum (m.filter f) ≤ vsum m := by
  induction m with
  | nil => exact Nat.le_refl _
  | cons p t ih =>
    rw [List.filter_cons]
    split
    · simp only [vsum]; omega
    · simp only [vsum]; omega
theorem vsum_del (m : List (B × B)) (k : B) : vsum (del m k) ≤ vsum m := vsum_filter _ m
theorem vsum_ins (m : List (B × B)) (k v : B) : vsum (ins m k v) ≤ vsum m + v.length := by
  have h := congrArg vsum (takeDrop (del m k) k)
  rw [vsum_app] at h
  have hd := vsum_del m k
  unfold ins
  rw [vsum_app]
  simp only [vsum]
  omega
theorem mem_ins {m : List (B × B)} {k v : B} {p : B × B} (h : p ∈ ins m k v) : p = (k, v) ∨ p ∈ m := by
  unfold ins at h
  have hs := takeDrop (del m k) k
  rcases List.mem_append.1 h with h | h
  · exact .inr (List.mem_filter.1 (by rw [← hs]; exact List.mem_append_left _ h : p ∈ del m k)).1
  · rcases List.mem_cons.1 h with h | h
    · exact .inl h
    · exact .inr (List.mem_filter.1 (by rw [← hs]; exact List.mem_append_right _ h : p ∈ del m k)).1
theorem nodup_len {α : Type} [DecidableEq α] : ∀ (l k : List α), l.Nodup → (∀ x ∈ l, x ∈ k) → l.length ≤ k.length
  | [], _, _, _ => Nat.zero_le _
  | x :: t, k, hn, hs => by
    obtain ⟨h1, h2⟩ := List.nodup_cons.1 hn
    have hx := hs x List.mem_cons_self
    have ih := nodup_len t (k.erase x) h2 (fun y hy => (List.mem_erase_of_ne (fun e : y = x => h1 (by rw [← e]; exact hy))).2 (hs y (List.mem_cons_of_mem _ hy)))
    rw [List.length_erase_of_mem hx] at ih
    have : 0 < k.length := List.length_pos_of_mem hx
    simp; omega
theorem keyL_mem (n : Nat) : keyL n ∈ [keyL 0, keyL 1, keyL 2, keyL 3, keyL 4, keyL 5, keyL 6, keyL 7] := by
  have e : keyL n = keyL (n % 8) := by unfold keyL; rw [Nat.mod_mod]
  rw [e]
  have h : n % 8 < 8 := Nat.mod_lt _ (by decide)
  generalize n % 8 = k at h
  match k, h with
  | 0, _ => simp
  | 1, _ => simp
  | 2, _ => simp
  | 3, _ => simp
  | 4, _ => simp
  | 5, _ => simp
  | 6, _ => simp
  | 7, _ => simp
theorem asc_len8 {m : List (B × B)} (h : Asc m) (hk : ∀ p ∈ m, ∃ n, p.1 = keyL n) : m.length ≤ 8 := by
  have hn : (m.map (·.1)).Nodup := by
    rw [List.Nodup, List.pairwise_map]
    exact List.Pairwise.imp (fun {a c} hac e => by rw [e] at hac; exact lt_irrefl _ hac) h
  have := nodup_len (m.map (·.1)) _ hn (fun x hx => by
    obtain ⟨p, hp, rfl⟩ := List.mem_map.1 hx
    obtain ⟨n, e⟩ := hk p hp
    rw [e]; exact keyL_mem n)
  simpa using this
theorem encs_vsum {m : List (B × B)} (hk : ∀ p ∈ m, ∃ n, p.1 = keyL n) : (encs (values m)).length ≤ 307 * m.length + vsum m := by
  induction m with
  | nil => exact Nat.zero_le _
  | cons p t ih =>
    have h1 := ih (fun q hq => hk q (List.mem_cons_of_mem _ hq))
    obtain ⟨n, e⟩ := hk p List.mem_cons_self
    have h2 := (keyL_ok n).2
    rw [← e] at h2
    rw [values_cons, encs_cons]
    simp only [vsum, Chg.len, List.length_cons, Bool.false_eq_true, if_false]
    omega
theorem encs_small {m : List (B × B)} (h : Asc m) (hk : ∀ p ∈ m, ∃ n, p.1 = keyL n) : (encs (values m)).length ≤ 2456 + vsum m := by
  have h1 := encs_vsum hk
  have h2 := asc_len8 h hk
  omega
/-- The law's model is the store's contents. -/
structure Rel (s : St) (m : LM) : Prop where
  now : m.now = s.now
  opn : m.opn = s.opn
  com : m.commits = s.commits
  was : s.opn = true → m.was = s.was
/-- The writes of a store. -/
structure WOk (s : St) : Prop where
  sum : s.logged = (s.writes.map fun w => w.bs.length).sum
  wr : ∀ w ∈ s.writes, w.kind ≤ 2 ∧ w.idx ≤ 1 ∧ (w.kind ≠ 1 → 0 < w.bs.length)
  h0 : s.base.h0.length ≤ 8388608
  h1 : s.base.h1.length ≤ 8388608
  a0 : s.base.a0.length ≤ 8388608
  a1 : s.base.a1.length ≤ 8388608
/-- What acts of u units may have made of a store that began at u0 with areas of at most A bytes. -/
structure Bud (A u0 u : Nat) (s : St) : Prop where
  sp : s.opn = true → s.spoilt = false
  kn : ∀ p ∈ s.now, ∃ n, p.1 = keyL n
  kw : s.opn = true → ∀ p ∈ s.was, ∃ n, p.1 = keyL n
  vn : vsum s.now ≤ 8 * u
  vw : s.opn = true → vsum s.was ≤ 8 * u
  lg : s.logged + (if s.opn then s.size else 0) + 7000 * u0 ≤ 7000 * u
  a0 : s.disk.a0.length ≤ A + s.logged
  a1 : s.disk.a1.length ≤ A + s.logged
  cm : s.commits ≤ u
  gn : s.gen ≤ u
  sz : s.opn = true → s.size ≤ 13 + 315 * u
  wb : ∀ w ∈ s.writes, w.bs.length ≤ 2600 + 315 * u
/-- The limits that acts of u units keep to. -/
structure Lim (A u0 u : Nat) : Prop where
  area : A + 7000 * u ≤ 4100000 + 7000 * u0
  u : u ≤ 540
/-- What is known of the disk at the beginning, and of the heads that are written. -/
structure More (A : Nat) (s : St) : Prop where
  b0 : s.base.a0.length ≤ A
  b1 : s.base.a1.length ≤ A
  h0 : HeadOk s.base.h0 ∧ ∀ g a, valid s.base.h0 = some (g, a) → g ≤ s.gen
  h1 : HeadOk s.base.h1 ∧ ∀ g a, valid s.base.h1 = some (g, a) → g ≤ s.gen
  hw : ∀ w ∈ s.writes, w.kind = 2 → ∃ g a, w.bs = part g a ++ part g a ∧ g ≤ s.gen ∧ g ≤ latest ∧ a ≤ 1
  ch : s.gen = 0 → ∃ c0, s.commits = c0 + s.writes.length ∧ ∀ i w, s.writes[i]? = some w → w.kind = 0 ∧ w.idx = s.area ∧ ∃ L, w.bs = record 0 (c0 + i + 1) L
theorem More.same {A : Nat} {s s' : St} (h : More A s) (e1 : s'.base = s.base) (e2 : s'.gen = s.gen) (e3 : s'.writes = s.writes) (e4 : s'.area = s.area) (e5 : s'.commits = s.commits) : More A s' :=
  ⟨by rw [e1]; exact h.b0, by rw [e1]; exact h.b1, by rw [e1, e2]; exact h.h0, by rw [e1, e2]; exact h.h1, by rw [e2, e3]; exact h.hw, by rw [e2, e3, e4, e5]; exact h.ch⟩
theorem More.commit {A : Nat} {s : St} (h : More A s) (L : List Chg) (hg : s.gen = 0) : ∃ c0, s.commits + 1 = c0 + (s.writes ++ [(⟨0, s.area, record 0 (s.commits + 1) L⟩ : Wr)]).length ∧ ∀ i w, (s.writes ++ [(⟨0, s.area, record 0 (s.commits + 1) L⟩ : Wr)])[i]? = some w → w.kind = 0 ∧ w.idx = s.area ∧ ∃ L, w.bs = record 0 (c0 + i + 1) L := by
  obtain ⟨c0, h2, h3⟩ := h.ch hg
  refine ⟨c0, by simp; omega, fun i w hw => ?_⟩
  by_cases hi : i < s.writes.length
  · rw [List.getElem?_append_left hi] at hw
    exact h3 i w hw
  · have hi2 : i = s.writes.length := by
      have := (List.getElem?_eq_some_iff.1 hw).1
      simp at this; omega
    subst hi2
    rw [List.getElem?_append_right (Nat.le_refl _)] at hw
    simp at hw
    subst hw
    exact ⟨rfl, rfl, L, by rw [h2]⟩
/-- What a list of acts keeps. -/
structure Kept (A u0 u : Nat) (s : St) (m : LM) : Prop where
  inv : Inv True s
  bud : Bud A u0 u s
  wok : WOk s
  rel : Rel s m
  mo : More A s
/-- .. and how the history goes on. -/
def HistNext (s : St) (m : LM) (s' : St) (m' : LM) : Prop := ∀ b states at_, Hist True s b states at_ → (m'.commits = m.commits ∧ Hist True s' b states at_) ∨ (m'.commits = m.commits + 1 ∧ Hist True s' b (states ++ [m'.now]) (at_ ++ [s'.writes.length]))
theorem HistNext.same {s : St} {m : LM} : HistNext s m s m := fun _ _ _ h => .inl ⟨rfl, h⟩
section
variable {A u0 u c : Nat} {s : St} {m : LM}
theorem Bud.more (h : Bud A u0 u s) (hc : u ≤ c) : Bud A u0 c s :=
  ⟨h.sp, h.kn, h.kw, by have := h.vn; omega, fun ho => by have := h.vw ho; omega, by have := h.lg; omega, h.a0, h.a1, by have := h.cm; omega, by have := h.gn; omega, fun ho => by have := h.sz ho; omega, fun w hw => by have := h.wb w hw; omega⟩
theorem Kept.more (h : Kept A u0 u s m) (hc : u ≤ c) : Kept A u0 c s m := ⟨h.inv, h.bud.more hc, h.wok, h.rel, h.mo⟩
theorem WOk.write {s : St} (h : WOk s) (w : Wr) (hw : w.kind ≤ 2 ∧ w.idx ≤ 1 ∧ (w.kind ≠ 1 → 0 < w.bs.length)) : WOk (write s w) := by
  refine ⟨?_, fun x hx => ?_, h.h0, h.h1, h.a0, h.a1⟩
  · show s.logged + w.bs.length = ((s.writes ++ [w]).map fun w => w.bs.length).sum
    rw [List.map_append, List.sum_append, ← h.sum]; simp
  · rcases List.mem_append.1 (show x ∈ s.writes ++ [w] from hx) with hx | hx
    · exact h.wr x hx
    · simp at hx; subst hx; exact hw
theorem WOk.same {s s' : St} (h : WOk s) (e1 : s'.logged = s.logged) (e2 : s'.writes = s.writes) (e3 : s'.base = s.base) : WOk s' :=
  ⟨by rw [e1, e2]; exact h.sum, by rw [e2]; exact h.wr, by rw [e3]; exact h.h0, by rw [e3]; exact h.h1, by rw [e3]; exact h.a0, by rw [e3]; exact h.a1⟩
/-- Begin. -/
theorem kept_begin (h : Kept A u0 u s m) (ho : s.opn = false) (hc : 1 ≤ c) : Kept A u0 (u + c) (begin_ s) { m with opn := true, was := m.now } ∧ HistNext s m (begin_ s) { m with opn := true, was := m.now } := by
  obtain ⟨i1, i2⟩ := inv_begin h.inv ho
  have hb := h.bud
  have hlg := hb.lg
  rw [ho] at hlg
  refine ⟨⟨i1, ⟨fun _ => rfl, hb.kn, fun _ => hb.kn, by have := hb.vn; show vsum s.now ≤ _; omega, fun _ => by have := hb.vn; show vsum s.now ≤ _; omega, ?_, hb.a0, hb.a1, by have := hb.cm; show s.commits ≤ _; omega, by have := hb.gn; show s.gen ≤ _; omega, fun _ => by show 13 ≤ _; omega, fun w hw => by have := hb.wb w hw; omega⟩, h.wok.same rfl rfl rfl, ⟨h.rel.now, rfl, h.rel.com, fun _ => h.rel.now⟩, h.mo.same rfl rfl rfl rfl rfl⟩, fun b st at_ hh => .inl ⟨rfl, hh.same rfl rfl rfl i2⟩⟩
  show s.logged + 13 + 7000 * u0 ≤ 7000 * (u + c)
  simp at hlg
  omega
/-- Abandon. -/
theorem kept_abandon (h : Kept A u0 u s m) (ho : s.opn = true) : Kept A u0 (u + c) (abandon s) { m with opn := false, now := m.was } ∧ HistNext s m (abandon s) { m with opn := false, now := m.was } := by
  obtain ⟨i1, i2⟩ := inv_abandon h.inv ho
  have hb := h.bud
  have hlg := hb.lg
  rw [ho] at hlg
  refine ⟨⟨i1, ⟨fun e => (by cases e), hb.kw ho, fun e => (by cases e), by have := hb.vw ho; show vsum s.was ≤ _; omega, fun e => (by cases e), ?_, hb.a0, hb.a1, by have := hb.cm; show s.commits ≤ _; omega, by have := hb.gn; show s.gen ≤ _; omega, fun e => (by cases e), fun w hw => by have := hb.wb w hw; omega⟩, h.wok.same rfl rfl rfl, ⟨h.rel.was ho, rfl, h.rel.com, fun e => (by cases e)⟩, h.mo.same rfl rfl rfl rfl rfl⟩, fun b st at_ hh => .inl ⟨rfl, hh.same rfl rfl rfl i2⟩⟩
  show s.logged + 0 + 7000 * u0 ≤ 7000 * (u + c)
  simp at hlg
  omega
/-- There is room for a change. -/
theorem room (h : Kept A u0 u s m) (hl : Lim A u0 (u + c)) (ho : s.opn = true) (n : Nat) (hn : n ≤ 315 * c) : ¬ 4194304 - s.size < n := by
  have hlg := h.bud.lg
  rw [ho] at hlg
  have := hl.area
  simp at hlg
  omega
/-- A change is added. -/
theorem kept_add (h : Kept A u0 u s m) (ho : s.opn = true) (ok : Ok s) (x : Chg) (k : Nat) (hk : x.key = keyL k) (hv : x.val.length ≤ 8 * c) (hv2 : x.val.length ≤ 8192) (hc : 1 ≤ c) (hg : x.gone = true → x.val = [] ∧ look s.now x.key ≠ none) :
    Kept A u0 (u + c) (apply { s with changes := s.changes ++ [x], size := s.size + x.len } x) { m with now := if x.gone then del m.now x.key else ins m.now x.key x.val } ∧
    HistNext s m (apply { s with changes := s.changes ++ [x], size := s.size + x.len } x) { m with now := if x.gone then del m.now x.key else ins m.now x.key x.val } := by
  obtain ⟨k0, k1⟩ := keyL_ok k
  rw [← hk] at k0 k1
  have hfit : x.Fit := ⟨k0, k1, hv2, fun e => (hg e).1⟩
  have i1 := inv_added h.inv ho x hfit (fun e => (hg e).2)
  have hb := h.bud
  have hlg := hb.lg
  rw [ho] at hlg
  simp only [if_true] at hlg
  have hlen : x.len ≤ 315 * c := by
    unfold Chg.len
    split
    · omega
    · omega
  have _ := ok
  have hcom : (apply { s with changes := s.changes ++ [x], size := s.size + x.len } x).com = s.com := by unfold St.com apply; dsimp only; rw [ho]; rfl
  refine ⟨⟨i1, ⟨fun _ => hb.sp ho, fun p hp => ?_, fun _ => hb.kw ho, ?_, fun _ => by have := hb.vw ho; show vsum s.was ≤ _; omega, ?_, hb.a0, hb.a1, by have := hb.cm; show s.commits ≤ _; omega, by have := hb.gn; show s.gen ≤ _; omega, fun _ => by have := hb.sz ho; show s.size + x.len ≤ _; omega, fun w hw => by have := hb.wb w hw; omega⟩, h.wok.same rfl rfl rfl, ⟨?_, h.rel.opn, h.rel.com, h.rel.was⟩, h.mo.same rfl rfl rfl rfl rfl⟩, fun b st at_ hh => .inl ⟨rfl, hh.same rfl rfl rfl hcom⟩⟩
  · have hp : p ∈ (if x.gone then del s.now x.key else ins s.now x.key x.val) := hp
    split at hp
    · exact hb.kn p (List.mem_filter.1 hp).1
    · rcases mem_ins hp with rfl | hp
      · exact ⟨k, hk⟩
      · exact hb.kn p hp
  · show vsum (if x.gone then del s.now x.key else ins s.now x.key x.val) ≤ _
    have := hb.vn
    split
    · have := vsum_del s.now x.key; omega
    · have := vsum_ins s.now x.key x.val; omega
  · show s.logged + (if s.opn then s.size + x.len else 0) + 7000 * u0 ≤ 7000 * (u + c)
    rw [ho]; simp only [if_true]
    omega
  · show (if x.gone then del m.now x.key else ins m.now x.key x.val) = (if x.gone then del s.now x.key else ins s.now x.key x.val)
    rw [h.rel.now]
/-- A commit goes through. -/
theorem commit_goes (h : Kept A u0 u s m) (hl : Lim A u0 (u + c)) (ok : Ok s) (ho : s.opn = true) : (s.disk.area s.area).length + (record 0 (s.commits + 1) s.changes).length ≤ 4194304 ∧ (record 0 (s.commits + 1) s.changes).length ≤ 16777216 - s.logged ∧ commit s = (committed s, (s.commits : Int) + 1, 0) := by
  have hlg := h.bud.lg
  have hsz := ok.encs ho
  have hsp := h.bud.sp ho
  rw [ho] at hlg
  simp only [if_true] at hlg
  have hla := hl.area
  have hrl := record_len 0 (s.commits + 1) s.changes
  have ha : (s.disk.area s.area).length ≤ A + s.logged := by
    unfold Img.area
    split
    · exact h.bud.a0
    · exact h.bud.a1
  have hf : (s.disk.area s.area).length + (record 0 (s.commits + 1) s.changes).length ≤ 4194304 := by omega
  have hl2 : (record 0 (s.commits + 1) s.changes).length ≤ 16777216 - s.logged := by
    have := hl.u
    omega
  refine ⟨hf, hl2, ?_⟩
  unfold commit
  rw [if_neg (by rw [ho]; simp), if_neg (by rw [hsp]; simp), if_pos (show fits s (record 0 (s.commits + 1) s.changes) = true from decide_eq_true hf)]
  unfold commitEnd
  rw [show fits s (record 0 (s.commits + 1) s.changes) = true from decide_eq_true hf, decide_eq_true hl2]
  rfl
theorem kept_commit (h : Kept A u0 u s m) (hl : Lim A u0 (u + c)) (ok : Ok s) (ho : s.opn = true) (hc : 1 ≤ c) :
    Kept A u0 (u + c) (committed s) { m with opn := false, commits := m.commits + 1 } ∧ HistNext s m (committed s) { m with opn := false, commits := m.commits + 1 } := by
  obtain ⟨hf, hl2, _⟩ := commit_goes h hl ok ho
  have hsz := ok.encs ho
  have hb := h.bud
  have hlg := hb.lg
  rw [ho] at hlg
  simp only [if_true] at hlg
  have hrl := record_len 0 (s.commits + 1) s.changes
  have hcm := hb.cm
  have hlu := hl.u
  have hcm2 : s.commits + 1 < 4294967296 := by omega
  have henc : (encs s.changes).length < 4294967296 := by have := hl.area; omega
  have hs8 : (s.disk.area s.area).length + (record 0 (s.commits + 1) s.changes).length ≤ 8388608 := by omega
  have key : ∀ b st at_, Inv True (committed s) ∧ (committed s).com = s.now ∧ (Hist True s b st at_ → Hist True (committed s) b (st ++ [s.now]) (at_ ++ [s.writes.length + 1])) := fun b st at_ => inv_committed h.inv trivial ho hs8 hcm2 henc
  have hdisk : (committed s).disk = s.disk.setArea s.area (s.disk.area s.area ++ record 0 (s.commits + 1) s.changes) := by
    have : (committed s).disk = s.disk.setArea s.area (s.disk.area s.area ++ (record 0 (s.commits + 1) s.changes).take (record 0 (s.commits + 1) s.changes).length) := rfl
    rw [this, List.take_length]
  have hlog : (committed s).logged = s.logged + (record 0 (s.commits + 1) s.changes).length := rfl
  have hnew : (s.disk.area s.area ++ record 0 (s.commits + 1) s.changes).length ≤ A + (committed s).logged := by
    rw [List.length_append, hlog]
    have : (s.disk.area s.area).length ≤ A + s.logged := by
      unfold Img.area
      split
      · exact hb.a0
      · exact hb.a1
    omega
  refine ⟨⟨(key 0 [] []).1, ⟨fun e => (by cases e), hb.kn, fun e => (by cases e), by have := hb.vn; show vsum s.now ≤ _; omega, fun e => (by cases e), ?_, ?_, ?_, by show s.commits + 1 ≤ _; omega, by have := hb.gn; show s.gen ≤ _; omega, fun e => (by cases e), fun w hw => ?_⟩, ?_, ⟨h.rel.now, rfl, by show m.commits + 1 = s.commits + 1; rw [h.rel.com], fun e => (by cases e)⟩, ⟨h.mo.b0, h.mo.b1, h.mo.h0, h.mo.h1, fun w hw hk => (List.mem_append.1 (show w ∈ s.writes ++ [⟨0, s.area, record 0 (s.commits + 1) s.changes⟩] from hw)).elim (fun hw => h.mo.hw w hw hk) (fun hw => by simp at hw; subst hw; cases hk), fun hg => h.mo.commit s.changes hg⟩⟩, fun b st at_ hh => .inr ⟨rfl, ?_⟩⟩
  · show (committed s).logged + 0 + 7000 * u0 ≤ _
    rw [hlog]; omega
  · rw [hdisk]
    exact set_a0 _ _ _ _ (by have := hb.a0; rw [hlog]; omega) hnew
  · rw [hdisk]
    exact set_a1 _ _ _ _ (by have := hb.a1; rw [hlog]; omega) hnew
  · rcases List.mem_append.1 (show w ∈ s.writes ++ [⟨0, s.area, record 0 (s.commits + 1) s.changes⟩] from hw) with hw | hw
    · have := hb.wb w hw; omega
    · simp at hw; subst hw
      have := hb.sz ho
      show (record 0 (s.commits + 1) s.changes).length ≤ _
      omega
  · have := h.wok.write ⟨0, s.area, record 0 (s.commits + 1) s.changes⟩ ⟨Nat.zero_le _, ok.area, fun _ => by show 0 < (record 0 (s.commits + 1) s.changes).length; omega⟩
    exact this.same rfl rfl rfl
  · have := (key b st at_).2.2 hh
    show Hist True (committed s) b (st ++ [m.now]) (at_ ++ [(s.writes ++ [_]).length])
    rw [h.rel.now, List.length_append]
    exact this
/-- Compacting goes through. -/
theorem compact_goes (h : Kept A u0 u s m) (hl : Lim A u0 (u + c)) (ho : s.opn = false) (hc : 1 ≤ c) : compactOk s s.now = true := by
  have hb := h.bud
  have henc := encs_small h.inv.asc hb.kn
  have hlg := hb.lg
  rw [ho] at hlg
  have hvn := hb.vn
  have hgn := hb.gn
  have hlu := hl.u
  have hla := hl.area
  have hrl := record_len 1 s.commits (values s.now)
  simp at hlg
  refine decide_eq_true ⟨by omega, ?_, by omega⟩
  intro e
  have : s.gen ≤ 540 := by omega
  rw [e] at this
  exact absurd this (by decide)
theorem comp_areas (d : Img) (o sd : Nat) (R P : B) (n : Nat) (h0 : d.a0.length ≤ n) (h1 : d.a1.length ≤ n) (hR : R.length ≤ n) :
    (((d.setArea o []).setArea o ((d.setArea o []).area o ++ R.take R.length)).setHead sd (P.take P.length ++ (((d.setArea o []).setArea o ((d.setArea o []).area o ++ R.take R.length)).head sd).drop P.length)).a0.length ≤ n ∧
    (((d.setArea o []).setArea o ((d.setArea o []).area o ++ R.take R.length)).setHead sd (P.take P.length ++ (((d.setArea o []).setArea o ((d.setArea o []).area o ++ R.take R.length)).head sd).drop P.length)).a1.length ≤ n := by
  rw [head_a0, head_a1]
  have hn : ((d.setArea o []).area o ++ R.take R.length).length ≤ n := by rw [area_set, List.nil_append, List.take_length]; exact hR
  exact ⟨set_a0 _ _ _ _ (set_a0 _ _ _ _ h0 (Nat.zero_le _)) hn, set_a1 _ _ _ _ (set_a1 _ _ _ _ h1 (Nat.zero_le _)) hn⟩
theorem comp_disk_eq (s : St) (now : List (B × B)) : (compacted s now).disk = ((s.disk.setArea (1 - s.area) []).setArea (1 - s.area) ((s.disk.setArea (1 - s.area) []).area (1 - s.area) ++ (record 1 s.commits (values now)).take (record 1 s.commits (values now)).length)).setHead (1 - s.side) ((part (s.gen + 1) (1 - s.area) ++ part (s.gen + 1) (1 - s.area)).take (part (s.gen + 1) (1 - s.area) ++ part (s.gen + 1) (1 - s.area)).length ++ (((s.disk.setArea (1 - s.area) []).setArea (1 - s.area) ((s.disk.setArea (1 - s.area) []).area (1 - s.area) ++ (record 1 s.commits (values now)).take (record 1 s.commits (values now)).length)).head (1 - s.side)).drop (part (s.gen + 1) (1 - s.area) ++ part (s.gen + 1) (1 - s.area)).length) := rfl
theorem kept_compact (h : Kept A u0 u s m) (hl : Lim A u0 (u + c)) (ok : Ok s) (ho : s.opn = false) (hc : 1 ≤ c) :
    compact s s.now = (compacted s s.now, 0) ∧ Kept A u0 (u + c) (compacted s s.now) m ∧ HistNext s m (compacted s s.now) m := by
  have hok := compact_goes h hl ho hc
  have hcom : s.com = s.now := by unfold St.com; rw [ho]; rfl
  have hb := h.bud
  have henc := encs_small h.inv.asc hb.kn
  have hlg := hb.lg
  rw [ho] at hlg
  have hvn := hb.vn
  have hgn := hb.gn
  have hcm := hb.cm
  have hlu := hl.u
  have hrl := record_len 1 s.commits (values s.now)
  simp only [Bool.false_eq_true, if_false, Nat.add_zero] at hlg
  have key : ∀ b st at_, Inv True (compacted s s.now) ∧ (compacted s s.now).com = s.now ∧ (Hist True s b st at_ → Hist True (compacted s s.now) b st at_) := fun b st at_ => by
    have := inv_compacted (b := b) (states := st) (at_ := at_) h.inv (by rw [hcom]; exact hok) (by omega)
    rw [hcom] at this
    exact ⟨this.1, this.2.1, this.2.2.1⟩
  have hlog := comp_log s s.now
  have hR : (record 1 s.commits (values s.now)).length ≤ 4194304 := by omega
  have hw3 : WOk (compacted s s.now) := by
    have w1 := h.wok.write ⟨1, 1 - s.area, []⟩ ⟨(by show 1 ≤ 2; decide), Nat.sub_le _ _, fun e => absurd rfl e⟩
    have w2 := w1.write ⟨0, 1 - s.area, record 1 s.commits (values s.now)⟩ ⟨Nat.zero_le _, Nat.sub_le _ _, fun _ => by show 0 < (record 1 s.commits (values s.now)).length; omega⟩
    have w3 := (w2.same (s' := { J.write (J.write s ⟨1, 1 - s.area, []⟩) ⟨0, 1 - s.area, record 1 s.commits (values s.now)⟩ with side := 1 - s.side }) rfl rfl rfl).write ⟨2, 1 - s.side, part (s.gen + 1) (1 - s.area) ++ part (s.gen + 1) (1 - s.area)⟩ ⟨Nat.le_refl _, Nat.sub_le _ _, fun _ => by show 0 < (part (s.gen + 1) (1 - s.area) ++ part (s.gen + 1) (1 - s.area)).length; rw [part2_len]; decide⟩
    exact w3.same rfl rfl rfl
  have hd : (compacted s s.now).disk.a0.length ≤ A + (compacted s s.now).logged ∧ (compacted s s.now).disk.a1.length ≤ A + (compacted s s.now).logged := by
    have h0 := hb.a0
    have h1 := hb.a1
    rw [comp_disk_eq]
    exact comp_areas _ _ _ _ _ _ (by rw [hlog]; omega) (by rw [hlog]; omega) (by rw [hlog]; omega)
  have _ := ok
  have q1 : (compacted s s.now).opn = false := ho
  have q2 : (compacted s s.now).now = s.now := rfl
  have q3 : (compacted s s.now).commits = s.commits := rfl
  have q4 : (compacted s s.now).gen = s.gen + 1 := rfl
  have q6 : ∀ w ∈ (compacted s s.now).writes, w.bs.length ≤ 2600 + 315 * (u + c) := by
    intro w hw
    have hw : w ∈ ((s.writes ++ [(⟨1, 1 - s.area, []⟩ : Wr)]) ++ [⟨0, 1 - s.area, record 1 s.commits (values s.now)⟩]) ++ [⟨2, 1 - s.side, part (s.gen + 1) (1 - s.area) ++ part (s.gen + 1) (1 - s.area)⟩] := hw
    simp only [List.mem_append, List.mem_singleton] at hw
    rcases hw with ((hw | rfl) | rfl) | rfl
    · have := hb.wb w hw; omega
    · exact Nat.zero_le _
    · show (record 1 s.commits (values s.now)).length ≤ _; omega
    · show (part (s.gen + 1) (1 - s.area) ++ part (s.gen + 1) (1 - s.area)).length ≤ _; rw [part2_len]; omega
  have q7 : More A (compacted s s.now) := by
    refine ⟨h.mo.b0, h.mo.b1, ⟨h.mo.h0.1, fun g a e => Nat.le_succ_of_le (h.mo.h0.2 g a e)⟩, ⟨h.mo.h1.1, fun g a e => Nat.le_succ_of_le (h.mo.h1.2 g a e)⟩, fun w hw hk => ?_, fun hg => absurd hg (Nat.succ_ne_zero _)⟩
    have hw : w ∈ ((s.writes ++ [(⟨1, 1 - s.area, []⟩ : Wr)]) ++ [⟨0, 1 - s.area, record 1 s.commits (values s.now)⟩]) ++ [⟨2, 1 - s.side, part (s.gen + 1) (1 - s.area) ++ part (s.gen + 1) (1 - s.area)⟩] := hw
    simp only [List.mem_append, List.mem_singleton] at hw
    rcases hw with ((hw | rfl) | rfl) | rfl
    · obtain ⟨g, a, e1, e2, e3, e4⟩ := h.mo.hw w hw hk
      exact ⟨g, a, e1, Nat.le_succ_of_le e2, e3, e4⟩
    · cases hk
    · cases hk
    · exact ⟨s.gen + 1, 1 - s.area, rfl, Nat.le_refl _, Nat.le_trans (show s.gen + 1 ≤ 541 by have := hb.gn; omega) (by decide), Nat.sub_le _ _⟩
  have q5 : compact s s.now = (compacted s s.now, 0) := by unfold compact; rw [hok]; rfl
  refine ⟨q5, ?_⟩
  generalize compacted s s.now = C at *
  exact ⟨⟨(key 0 [] []).1, ⟨fun e => absurd (e.symm.trans q1) (by decide), by rw [q2]; exact hb.kn, fun e => absurd (e.symm.trans q1) (by decide), by rw [q2]; omega, fun e => absurd (e.symm.trans q1) (by decide), by rw [q1, hlog]; simp only [Bool.false_eq_true, if_false]; omega, hd.1, hd.2, by rw [q3]; omega, by rw [q4]; omega, fun e => absurd (e.symm.trans q1) (by decide), q6⟩, hw3, ⟨by rw [q2]; exact h.rel.now, by rw [q1, ← ho]; exact h.rel.opn, by rw [q3]; exact h.rel.com, fun e => absurd (e.symm.trans q1) (by decide)⟩, q7⟩, fun b st at_ hh => .inl ⟨rfl, (key b st at_).2.2 hh⟩⟩
theorem csmall_now (h : Kept A u0 u s m) (hl : u ≤ 540) : CSmall s s.now := by
  have henc := encs_small h.inv.asc h.bud.kn
  have := h.bud.vn
  have := h.bud.cm
  exact ⟨by omega, by omega, fun p hp => by obtain ⟨n, e⟩ := h.bud.kn p hp; have := (keyL_ok n).2; rw [e]; unfold maxLen; omega⟩
theorem csmall_was (h : Kept A u0 u s m) (hl : u ≤ 540) (ho : s.opn = true) : CSmall s s.was := by
  have hasc : Asc s.was := by
    have := h.inv.casc
    unfold St.com at this
    rw [ho] at this
    exact this
  have henc := encs_small hasc (h.bud.kw ho)
  have := h.bud.vw ho
  have := h.bud.cm
  exact ⟨by omega, by omega, fun p hp => by obtain ⟨n, e⟩ := h.bud.kw ho p hp; have := (keyL_ok n).2; rw [e]; unfold maxLen; omega⟩
end
end J
end Go.Proofs.Ythjjbaiijelhnaa
/- Law 30: does. -/
namespace Go.Proofs.Ythjjbaiijelhnaa
open Go.RowKit Go.Lib Go.Maps Go.WideMaps Go.Sort
set_option maxRecDepth 100000
theorem Step.or {M M' : Nat → Prop} {w w' : World} (h : Step M M' w w') (q : Nat) : Step (fun k => M k ∨ k = q) (fun k => M' k ∨ k = q) w w' :=
  ⟨h.os, h.tape, h.output, h.size, fun k hk hn => h.block k hk (fun hm => hn (.inl hm)), fun k hk hm => hm.imp (h.sub k hk) id⟩
/-- What does does: the act is done to the store and to the model. -/
def DoesRes (A u0 u : Nat) (p q : Nat) (M : Nat → Prop) (s : J.St) (m : LM) (w : World) (e : Ending) (w' : World) : Prop :=
  e = .returned (.bool true) ∧ ∃ M' s' m', StoreR w' p M' s' ∧ ModR w' q M' m' ∧ J.Kept A u0 u s' m' ∧ J.HistNext s m s' m' ∧ Step (fun k => M k ∨ k = q) (fun k => M' k ∨ k = q) w w'
abbrev actV (what key : Nat) (A : Option Addr) (n c : Nat) : Value := .agg #[.int .u8 what, .int .u8 key, .slice A n c]
/-- What does needs. -/
structure DoesIn (A u0 u c : Nat) (p q : Nat) (M : Nat → Prop) (s : J.St) (m : LM) (key : Nat) (Av : Option Addr) (n cv : Nat) (val : J.B) (w : World) : Prop where
  st : StoreR w p M s
  md : ModR w q M m
  cap : ∀ k, M k → k < w.heap.size
  kept : J.Kept A u0 u s m
  lim : J.Lim A u0 (u + c)
  val : Sl w M (.slice Av n cv) val
  n8 : n ≤ 8 * c
  n : n ≤ 8192
  c : 1 ≤ c
  key : key < 256
theorem DoesIn.ok {A u0 u c p q : Nat} {M : Nat → Prop} {s : J.St} {m : LM} {key : Nat} {Av : Option Addr} {n cv : Nat} {val : J.B} {w : World} (h : DoesIn A u0 u c p q M s m key Av n cv val w) : Ok s := h.st.q.2
/-- The same, behind blocks that are new. -/
theorem DoesIn.below {A u0 u c p q : Nat} {M : Nat → Prop} {s : J.St} {m : LM} {key : Nat} {Av : Option Addr} {n cv : Nat} {val : J.B} {w w' : World} (h : DoesIn A u0 u c p q M s m key Av n cv val w) (hb : Below w.heap.size w w') : DoesIn A u0 u c p q M s m key Av n cv val w' :=
  ⟨h.st.below hb, h.md.step (Step.of_below hb), fun k hk => Nat.lt_of_lt_of_le (h.cap k hk) hb.size, h.kept, h.lim, h.val.step (Step.of_below hb), h.n8, h.n, h.c, h.key⟩
theorem enc_key (k : J.B) (h : k ≠ []) : (⟨k.toArray⟩ : ByteArray).toList ≠ [] := by rw [ByteArray.toList_eq]; simpa using h
theorem enc_size (k : J.B) : (⟨k.toArray⟩ : ByteArray).size = k.length := by simp [ByteArray.size]
/-- The model in memory, where its fields are known. -/
theorem ModR.row {w : World} {q : Nat} {M : Nat → Prop} {m : LM} {b : Bool} (h : ModR w q M m) (hb : m.opn = b) : ∃ nv wv, w.heap[q]? = some (.cells #[nv, wv, .bool b, .int .i64 (m.commits : Nat)] 69 (0, 0)) ∧ ¬ M q ∧ Prs w M nv m.now ∧ Prs w M wv m.was ∧ (∃ A n c, nv = .slice A n c) ∧ ∃ A n c, wv = .slice A n c := by
  subst hb
  obtain ⟨nv, wv, h1, h2, h3, h4⟩ := h
  exact ⟨nv, wv, h1, h2, h3, h4, h3.shape, h4.shape⟩
theorem DoesIn.by {A u0 u c p q : Nat} {M : Nat → Prop} {s : J.St} {m : LM} {key : Nat} {Av : Option Addr} {n cv : Nat} {val : J.B} {w : World} (h : DoesIn A u0 u c p q M s m key Av n cv val w) : By w M Av n val ∧ val.length = n := by
  obtain ⟨A', c', e, _, hb⟩ := h.val.by
  injection e with e1 e2 e3
  subst e1 e2
  exact ⟨hb, rfl⟩
/-- The model's block is set. -/
theorem set_step {M : Nat → Prop} {w w' : World} {q : Nat} (hg : w.grownBy w' (some q)) : Step (fun k => M k ∨ k = q) (fun k => M k ∨ k = q) w w' := Step.of_grown hg (fun k e _ => by injection e with e; exact .inr e.symm)
/-- The walk up to the first test: the box of the act, the key. -/
structure DoesAt (A u0 u c : Nat) (p q : Nat) (M : Nat → Prop) (s : J.St) (m : LM) (key : Nat) (Av : Option Addr) (n cv : Nat) (val : J.B) (w0 : World) (what : Nat) (w : World) : Prop where
  inp : DoesIn A u0 u c p q M s m key Av n cv val w
  box : w.heap[w0.heap.size]? = some (.cells #[.int .u8 what, .int .u8 key, .slice Av n cv] 80 (0, 0))
  nm : ¬ M w0.heap.size
  nq : w0.heap.size ≠ q
  below : Below w0.heap.size w0 w
theorem commit_anyfit (p : Nat) (M : Nat → Prop) (s : J.St) (w : World) (h : StoreR w p M s) (ho : s.opn = true) (hsp : s.spoilt = false) (hs : CSmall s s.was) (hcm : s.commits + 1 < 4294967296) (har : s.area ≤ 1) (hfit : (s.disk.area s.area).length + (J.record 0 (s.commits + 1) s.changes).length ≤ 4194304) :
    Calls Try.prog 15 #[.pointer (some ⟨p, 0, none⟩)] w fun e w' => e = .returned (.tuple #[.int .i64 (J.commit s).2.1, .int .i64 (J.commit s).2.2]) ∧ ∃ M', StoreR w' p M' (J.commit s).1 ∧ Step M M' w w' := by
  by_cases h0 : s.area = 0
  · exact commit_fit0 p M s w h ho hsp hs hcm h0 (by rw [area_eq0 h0] at hfit; exact hfit)
  · have h1 : s.area = 1 := by omega
    exact commit_fit1 p M s w h ho hsp hs hcm h1 (by rw [area_eq1 h1] at hfit; exact hfit)
end Go.Proofs.Ythjjbaiijelhnaa
