/- words.All returns the words of the lists, in order. -/
import Derived.Test.YtphofgokcfdobaaDoorWTab
import Derived.Maps.RangeWalk
import Derived.Maps.AppendAt
import Derived.Maps.Views
import Derived.Sort.KeysCollected
import Derived.Sort.OwnSorted
namespace Go.Proofs.YtphofgokcfdobaaDoor
open Go.RowKit Go.Shelf Go.Maps Go.WideMaps Go.Sort
set_option maxRecDepth 100000
namespace WP
def allW : List (List UInt8) := keysL ++ (verbsL ++ constsL)
/-- The words, in order. -/
def sortedW : List (List UInt8) := allW.mergeSort leB
theorem sortedW_perm : sortedW.Perm allW := List.mergeSort_perm _ _
theorem has_ins {H : Type} (c : Int) (l : List UInt8) : ∀ (ws : List (List UInt8)) (D : DataW H), Maps.IsMap D → (Maps.has (ins D c ws) (.string l) = true ↔ l ∈ ws ∨ Maps.has D (.string l) = true)
  | [], _, _ => by simp [ins]
  | x :: t, D, h => by
    have ih := has_ins c l t (D.put (.string x) (.lit (.int .u8 c))) (Maps.IsMap.put h _ _)
    show Maps.has (ins (D.put (.string x) (.lit (.int .u8 c))) c t) _ = true ↔ _
    rw [ih]
    by_cases h2 : l = x
    · subst h2
      rw [Maps.has_put_same h (show WideAt.IsKeyLit (.string l) from trivial)]; simp
    · rw [Maps.has_put_other (by intro e; exact h2 (by injection e))]; simp [h2]
theorem has_tabD (l : List UInt8) : Maps.has (tabD (H := Unit)) (.string l) = true ↔ l ∈ allW := by
  unfold tabD allW
  have h0 : Maps.IsMap (DataW.map [] : DataW Unit) := Maps.isMap_empty
  have h1 := isMap_ins 1 keysL _ h0
  have h2 := isMap_ins 2 verbsL _ h1
  rw [has_ins _ _ _ _ h2, has_ins _ _ _ _ h1, has_ins _ _ _ _ h0]
  have : Maps.has (DataW.map [] : DataW Unit) (.string l) = false := rfl
  rw [this]
  simp only [List.mem_append, Bool.false_eq_true, or_false]
  constructor
  · rintro (h | h | h)
    · exact .inr (.inr h)
    · exact .inr (.inl h)
    · exact .inl h
  · rintro (h | h | h)
    · exact .inr (.inr h)
    · exact .inr (.inl h)
    · exact .inl h
theorem allW_nodup : allW.Nodup := by decide +kernel
theorem allW_len : allW.length ≤ 400 := by decide +kernel
theorem allW_pos : 0 < allW.length := by decide +kernel
theorem sortedW_len : sortedW.length = allW.length := sortedW_perm.length_eq
theorem collected_all {ss : List (List UInt8)} {left : Lit → Bool} (h : Collected (tabD (H := Unit)) left ss) (hl : ∀ kl, left kl = false) : ss.mergeSort leB = sortedW :=
  mergeSort_of_perm ((List.perm_ext_iff_of_nodup h.1 allW_nodup).2 fun x => by rw [h.2 x, hl, ← has_tabD]; simp)
end WP
theorem Tryd.infoS : (Tryd.prog.info? 9).map (fun i => (i.zero, i.size, i.bytes)) = some (some (.string ⟨#[]⟩), 1, 16) := by kernel_rfl

theorem clipS_any (A : Addr) (n c : Nat) (w : World) (hc : n ≤ c) :
    Calls Tryd.prog 34 #[.slice (some A) n c] w fun e w' => e = .returned (.slice (some A) n n) ∧ w = w' := by
  go_enter Tryd.func34, Tryd.ntmps34
  go_wp2
  go_ret
  exact ⟨rfl, rfl⟩

set_option maxHeartbeats 4000000 in
theorem all_any (w : World) (hE : Env w) :
    Calls Tryd.prog 19 #[] w fun e w' => ∃ A, e = .returned (.slice (some ⟨A, 0, none⟩) WP.sortedW.length WP.sortedW.length) ∧ w.heap.size ≤ A ∧
      (∀ k, (h : k < WP.sortedW.length) → w'.cell? ⟨A, k, none⟩ = some (.string ⟨(WP.sortedW[k]).toArray⟩)) ∧ Below w.heap.size w w' := by
  obtain ⟨i0, hi, hz0, hz1, hz2⟩ := info_parts Tryd.infoS
  have HE := Lib.hid hE
  clear hE
  go_enter Tryd.func19, Tryd.ntmps19
  go_wp2_with fail
  refine (table_any (H := Unit) _ HE.out).mono ?_
  rintro e w1 ⟨b, rfl, hown, hbb, hb⟩
  have hbl := hown.lt
  have hsz := hown.size_le
  have HB := Lib.hid hb
  clear hb
  go_wp2_with (first | (at_range; refine wpList_range_own _ rfl _ 60 rfl 9 26 lawS Tryd.underlying60 _ b 1000 _ rfl hown ?_; intro w0 hrg0 hg0 hs0))
  go_frame
  go_loopw [1] (fun v wr => ∃ (left : Lit → Bool) (cnt : Nat) (ss : List (List UInt8)), wr.ranges Tryd.prog 9 (plainElem (H := Unit) Tryd.prog 26) b w1.heap.size 1000 WP.tabD left cnt ∧ ss.length + cnt ≤ 1000 ∧
      wr.ownsRow w1.heap.size 9 1 v ss.length (ss.map encStr) ∧ Collected WP.tabD left ss ∧ Below w.heap.size w wr ∧ w1.heap.size ≤ wr.heap.size)
    (fun _ wr => wr.rangeLeft b w1.heap.size)
  case atStart =>
    exact ⟨_, _, [], hrg0, by simp; omega, World.ownsRow_nil _ _ _ _, Collected.start WP.tabD, HB.out.grown hg0 HB.out.size (fun j hj => by cases hj), hg0.size⟩
  case round =>
    obtain ⟨left, cnt, ss, hrg, hcs, hrow, hC, hnx, hge⟩ := hrel
    go_wp2_with (first
      | (at_next; refine wpList_next_ranges _ rfl _ rfl 9 lawS (plainElem Tryd.prog 26) encStr (Value.int .u8) (fun key kl hk => by obtain ⟨x, hx, _⟩ := Maps.keyOf_str Tryd.underlying9 hk; exact ⟨x, hx⟩) (fun v y hv => by obtain ⟨c, rfl, _⟩ := plainElem_int_inv Tryd.underlying26 hv; exact ⟨c, rfl⟩) b w1.heap.size 1000 _ _ _ rfl hrg ?_ ?_))
    · intro hc0 hl0
      have hsrt := WP.collected_all hC hl0
      rcases hrow.2 with ⟨hnil, hn⟩ | ⟨g, cap, cur, rfl, hbase, hbk, h1, h2, h3, h4⟩
      · exfalso
        have hss : ss = [] := List.eq_nil_of_length_eq_zero hn
        have := WP.sortedW_len
        rw [← hsrt, hss] at this
        have h5 := WP.allW_pos
        simp at this; omega
      · have hH : Holds encStr wr g 0 ss.toArray := holds_of_block hbk (by simpa using h4)
        have hgl : g < wr.heap.size := (Array.getElem?_eq_some_iff.1 hbk).1
        have hc := Tryd.slices_Sort_string g 0 cap ss wr hH hgl (by omega)
        have hsrt2 : ss.mergeSort (fun x y => decide (x ≤ y)) = WP.sortedW := hsrt
        have hlen : ss.length = WP.sortedW.length := by rw [← hsrt]; exact (List.length_mergeSort ss).symm
        rw [hsrt2] at hc
        have HL := Lib.hid hlen
        clear hlen hsrt hsrt2
        go_wp2_with fail
        refine hc.mono ?_
        rintro e w' ⟨rfl, nn, os, rfl⟩
        have hown' := ownsRow_sorted (ss := ss) (ts := WP.sortedW) HL.out.symm hbase hbk h1 h2 h3 (os := os) (n := nn)
        have hbel := hnx.grown (grownBy_sorted (w := wr) (g := g) (n := nn) (os := os) WP.sortedW.toArray) hnx.size (fun j hj => by cases hj; have := HB.out.size; omega)
        have HO := Lib.hid hown'
        have HBL := Lib.hid hbel
        clear hown' hbel
        have hlt : WP.sortedW.length ≤ cap := by rw [← HL.out]; exact h1
        rw [HL.out]
        go_wp2_with fail
        refine (clipS_any _ _ _ _ hlt).mono ?_; rintro e w9 ⟨rfl, rfl⟩
        go_wp2_with fail
        go_ret
        refine ⟨g, rfl, by have := HB.out.size; omega, fun k h => ?_, HBL.out⟩
        have := HO.out.cellAt k (by rw [Nat.mul_one, HL.out]; exact h)
        rw [this, List.getElem?_map, List.getElem?_eq_getElem h]; rfl
    · intro x c kl yd yp w2 cnt2 hkey hlk hv hat hrg2 hlt hg2 hs2 hen
      obtain ⟨x', ex, rfl, _⟩ := Maps.keyOf_str Tryd.underlying9 hkey
      obtain rfl : x = x' := encStr_inj ex
      have hrow2 := hrow.kept hg2 (Or.inr (row_ne_iter hrow hrg).symm)
      clear hs2
      go_wp2_with (first
        | (at_builtin; refine wpList_append_own _ rfl _ _ 24 rfl w1.heap.size 9 i0 (.string ⟨#[]⟩) 1 16 Tryd.underlying24 hi hz0 hz1 hz2 rfl (by decide) _ _ _ rfl (hrow2.alloc _) ⟨w2.heap.size, 0, none⟩ 1 1 [encStr x] rfl rfl (cell_one_new _ _ _) (by simp [Value.oneCell', encStr]) (by unfold maxLen at *; omega) (by omega) (by have := hg2.size; simp; omega) ?_; intro v' w3 hown' hg3 hnil3; go_frame))
      have hrg3 := (hrg2.alloc _).kept hg3 (row_ne_low hrow2 hbl) (row_ne_iter hrow2 hrg2)
      go_roundw
      case rel =>
        refine ⟨_, cnt2, ss ++ [x], hrg3, by simp; omega, by simpa using hown', hC.step hlk hat, ?_, ?_⟩
        · exact ((hnx.grown hg2 hnx.size (fun j hj => by cases hj; exact HB.out.size)).alloc (by have := hnx.size; have := hg2.size; omega) _).grown hg3 (by have := hnx.size; have := hg2.size; simp; omega) (fun j hj => by have := (hrow2.lt j hj).1; have := HB.out.size; omega)
        · have := hg2.size; have := hg3.size; simp at this; omega
      case measure => rw [hrg3.left_eq, hrg.left_eq]; exact hlt
end Go.Proofs.YtphofgokcfdobaaDoor
