import Derived.Test.YtjbepnkchoaipaaGreatM03
import Derived.Test.YtjbepnkchoaipaaGreatM06
import Derived.Test.YtjbepnkchoaipaaGreatM04
import Derived.Test.YtjbepnkchoaipaaGreatM12
import Derived.StillTailTactics
set_option linter.unusedVariables false
set_option linter.unusedSimpArgs false
/- Contracts: Image.done. -/
namespace Go.Proofs.YtjbepnkchoaipaaGreat
open Go.RowKit Go.Lib
set_option maxRecDepth 100000
/-- An image as a value. -/
abbrev imgV (h0 h1 a0 a1 : Value) : Value := .agg #[h0, h1, a0, a1]
theorem heap_new3 (w : World) (a b c : Obj) : (((w.alloc a).alloc b).alloc c).heap[w.heap.size + 1 + 1]? = some c := by
  have := heap_alloc_new ((w.alloc a).alloc b) c
  simpa using this
theorem own_slice0 {w : World} {base n size : Nat} {e : TypeId} {v : Value} {xs : List Value} (h : w.ownsRow base e size v n xs) : ∃ A m c, v = .slice A m c := by
  rcases h.2 with ⟨rfl, _⟩ | ⟨g', cap, cur, rfl, _⟩
  · exact ⟨_, _, _, rfl⟩
  · exact ⟨_, _, _, rfl⟩
theorem blk_set0 {w : World} {g : Nat} {t : TypeId} {cs : Array Value} (h : w.heap[g]? = some (.cells cs t (0, 0))) (i : Nat) (u : Value) : (w.setCell ⟨g, i, none⟩ u).heap[g]? = some (.cells (cs.setIfInBounds i u) t (0, 0)) := by
  simp [World.setCell, Array.getElem?_modify, h]
theorem set_far0 {w : World} {g g' i : Nat} {u : Value} {o : Obj} (h : w.heap[g]? = some o) (hne : g' ≠ g) : (w.setCell ⟨g', i, none⟩ u).heap[g]? = some o := by
  simp [World.setCell, Array.getElem?_modify, h, hne]
theorem own_far {w w' : World} {base B n size : Nat} {e : TypeId} {v : Value} {xs : List Value} (h : w.ownsRow base e size v n xs) (hb : B ≤ base) (hk : ∀ k, base ≤ k → w'.heap[k]? = w.heap[k]?) : w'.ownsRow B e size v n xs := by
  refine ⟨h.1, ?_⟩
  rcases h.2 with h | ⟨g, cap, cur, rfl, h1, h2, h3⟩
  · exact .inl h
  · exact .inr ⟨g, cap, cur, rfl, Nat.le_trans hb h1, (hk g h1).trans h2, h3⟩
section
variable {w5 : World} {g g' i : Nat} {x y0 y1 y2 y3 : Value}
theorem done_far (j : Nat) (h : j ≠ g) (h' : j ≠ g') : (((((w5.setCell ⟨g, i, none⟩ x).setCell ⟨g', 0, none⟩ y0).setCell ⟨g', 1, none⟩ y1).setCell ⟨g', 2, none⟩ y2).setCell ⟨g', 3, none⟩ y3).heap[j]? = w5.heap[j]? := by
  rw [Below.heap_setCell _ _ _ _ (by exact h'), Below.heap_setCell _ _ _ _ (by exact h'), Below.heap_setCell _ _ _ _ (by exact h'), Below.heap_setCell _ _ _ _ (by exact h'), Below.heap_setCell _ _ _ _ (by exact h)]
theorem done_below {w : World} (h : Below w.heap.size w w5) : Below w.heap.size w (((((w5.setCell ⟨w.heap.size, i, none⟩ x).setCell ⟨w.heap.size + 1 + 1, 0, none⟩ y0).setCell ⟨w.heap.size + 1 + 1, 1, none⟩ y1).setCell ⟨w.heap.size + 1 + 1, 2, none⟩ y2).setCell ⟨w.heap.size + 1 + 1, 3, none⟩ y3) :=
  ((((h.setCell (p := ⟨w.heap.size, i, none⟩) (Nat.le_refl _) x).setCell (p := ⟨w.heap.size + 1 + 1, 0, none⟩) (by show _ ≤ w.heap.size + 1 + 1; omega) y0).setCell (p := ⟨w.heap.size + 1 + 1, 1, none⟩) (by show _ ≤ w.heap.size + 1 + 1; omega) y1).setCell (p := ⟨w.heap.size + 1 + 1, 2, none⟩) (by show _ ≤ w.heap.size + 1 + 1; omega) y2).setCell (p := ⟨w.heap.size + 1 + 1, 3, none⟩) (by show _ ≤ w.heap.size + 1 + 1; omega) y3
end
/-- The three boxes of done. -/
def ImgStay (w0 : World) (I X R : Array Value) (w : World) : Prop :=
  Below w0.heap.size w0 w ∧ w.heap[w0.heap.size]? = some (.cells I 67 (0, 0)) ∧ w.heap[w0.heap.size + 1]? = some (.cells X 111 (0, 0)) ∧ w.heap[w0.heap.size + 1 + 1]? = some (.cells R 67 (0, 0))
theorem img_stay (w : World) (I X R : Array Value) : ImgStay w I X R (((w.alloc (.cells I 67)).alloc (.cells X 111)).alloc (.cells R 67)) := by
  refine ⟨(((Below.refl _ w).alloc (Nat.le_refl _) _).alloc (by simp) _).alloc (by simp; omega) _, ?_, ?_, heap_new3 _ _ _ _⟩
  · rw [Below.heap_alloc _ _ _ (by simp; omega), Below.heap_alloc _ _ _ (by simp)]; exact heap_alloc_new _ _
  · rw [Below.heap_alloc _ _ _ (by simp)]
    have := heap_alloc_new (w.alloc (.cells I 67)) (.cells X 111)
    simpa using this
section
variable {w0 w w' : World} {I X R : Array Value}
theorem ImgStay.lt (h : ImgStay w0 I X R w) : w0.heap.size + 1 + 1 < w.heap.size := (Array.getElem?_eq_some_iff.1 h.2.2.2).1
theorem ImgStay.drew (h : ImgStay w0 I X R w) : ImgStay w0 I X R w.drew := ⟨h.1.drew, h.2⟩
theorem ImgStay.alloc (h : ImgStay w0 I X R w) (o : Obj) : ImgStay w0 I X R (w.alloc o) := by
  have := h.lt
  exact ⟨h.1.alloc h.1.size o, (Below.heap_alloc _ _ _ (by omega)).trans h.2.1, (Below.heap_alloc _ _ _ (by omega)).trans h.2.2.1, (Below.heap_alloc _ _ _ (by omega)).trans h.2.2.2⟩
theorem ImgStay.below (h : ImgStay w0 I X R w) (hb : Below w.heap.size w w') : ImgStay w0 I X R w' := by
  have := h.lt
  exact ⟨⟨hb.os.trans h.1.os, hb.tape.trans h.1.tape, hb.output.trans h.1.output, Nat.le_trans h.1.size hb.size, fun k hk => (hb.block k (by omega)).trans (h.1.block k hk)⟩, (hb.block _ (by omega)).trans h.2.1, (hb.block _ (by omega)).trans h.2.2.1, (hb.block _ (by omega)).trans h.2.2.2⟩
theorem ImgStay.seen (h : ImgStay w0 I X R w) : Below w0.heap.size w0 w ∧ w0.heap.size + 1 + 1 < w.heap.size ∧ (∀ j, w.cell? ⟨w0.heap.size, j, none⟩ = I[j]?) ∧ (∀ j, w.frozen? ⟨w0.heap.size, j, none⟩ = false) ∧ (∀ j, w.cell? ⟨w0.heap.size + 1, j, none⟩ = X[j]?) ∧ (∀ j, w.cell? ⟨w0.heap.size + 1 + 1, j, none⟩ = R[j]?) ∧ ∀ j, w.frozen? ⟨w0.heap.size + 1 + 1, j, none⟩ = false :=
  ⟨h.1, h.lt, fun j => cell_of_row _ _ j _ _ _ h.2.1, fun j => by simp [World.frozen?, h.2.1], fun j => cell_of_row _ _ j _ _ _ h.2.2.1, fun j => cell_of_row _ _ j _ _ _ h.2.2.2, fun j => by simp [World.frozen?, h.2.2.2]⟩
end
set_option maxHeartbeats 4000000 in
theorem done_empty0 (A0 A1 A2 A3 A4 : Option Addr) (n0 n1 n2 n3 n4 c0 c1 c2 c3 c4 : Nat) (many : Int) (w : World) :
    Calls Tryz.prog 55 #[imgV (.slice A0 n0 c0) (.slice A1 n1 c1) (.slice A2 n2 c2) (.slice A3 n3 c3), .agg #[.int .u8 1, .int .i64 0, .slice A4 n4 c4], .int .i64 many] w fun e w' => e = .returned (imgV (.slice A0 n0 c0) (.slice A1 n1 c1) (.slice none 0 0) (.slice A3 n3 c3)) ∧ Below w.heap.size w w' := by
  go_enter Tryz.func55, Tryz.ntmps55
  go_wp2_with fail
  refine bodyPost_ret (results_cell_row rfl _ _ (w.heap.size + 1 + 1) _ _ _ _ rfl (heap_new3 _ _ _ _) Tryz.underlying67 rfl (by kernel_rfl)) rfl ?_
  exact ⟨rfl, (((Below.refl _ w).alloc (Nat.le_refl _) _).alloc (by simp) _).alloc (by simp; omega) _⟩
set_option maxHeartbeats 4000000 in
theorem done_empty1 (A0 A1 A2 A3 A4 : Option Addr) (n0 n1 n2 n3 n4 c0 c1 c2 c3 c4 : Nat) (many : Int) (w : World) :
    Calls Tryz.prog 55 #[imgV (.slice A0 n0 c0) (.slice A1 n1 c1) (.slice A2 n2 c2) (.slice A3 n3 c3), .agg #[.int .u8 1, .int .i64 1, .slice A4 n4 c4], .int .i64 many] w fun e w' => e = .returned (imgV (.slice A0 n0 c0) (.slice A1 n1 c1) (.slice A2 n2 c2) (.slice none 0 0)) ∧ Below w.heap.size w w' := by
  go_enter Tryz.func55, Tryz.ntmps55
  go_wp2_with fail
  refine bodyPost_ret (results_cell_row rfl _ _ (w.heap.size + 1 + 1) _ _ _ _ rfl (heap_new3 _ _ _ _) Tryz.underlying67 rfl (by kernel_rfl)) rfl ?_
  exact ⟨rfl, (((Below.refl _ w).alloc (Nat.le_refl _) _).alloc (by simp) _).alloc (by simp; omega) _⟩
set_option maxHeartbeats 4000000 in
theorem done_grow0 (A0 A1 A2 A3 : Option Addr) (n0 n1 n2 n3 n4 c0 c1 c2 c3 c4 b o : Nat) (many : Nat) (w : World) (M2 M4 : Nat → Prop) (l2 l4 : List UInt8) (h2 : By w M2 A2 n2 l2) (h4 : By w M4 (some ⟨b, o, none⟩) n4 l4) (hm : many ≤ n4) (hc : n4 ≤ c4) (hn2 : n2 ≤ 40000000) (hn4 : n4 ≤ 40000000) :
    Calls Tryz.prog 55 #[imgV (.slice A0 n0 c0) (.slice A1 n1 c1) (.slice A2 n2 c2) (.slice A3 n3 c3), .agg #[.int .u8 0, .int .i64 0, .slice (some ⟨b, o, none⟩) n4 c4], .int .i64 many] w fun e w' => ∃ A' n' c', e = .returned (imgV (.slice A0 n0 c0) (.slice A1 n1 c1) (.slice A' n' c') (.slice A3 n3 c3)) ∧ w'.ownsRow w.heap.size 5 1 (.slice A' n' c') (n2 + many) (u8s (l2 ++ l4.take many)) ∧ Below w.heap.size w w' := by
  have H2 := Lib.hid h2
  have H4 := Lib.hid (h4.take hm)
  have hm1 : (many : Int) ≤ (n4 : Int) := by omega
  have hm2 : (many : Int) ≤ (c4 : Int) := by omega
  have hm3 : many ≤ 40000000 := by omega
  clear h2 h4
  go_enter Tryz.func55, Tryz.ntmps55
  go_upto_region 5 with fail
  have hst := img_stay w #[.slice A0 n0 c0, .slice A1 n1 c1, .slice A2 n2 c2, .slice A3 n3 c3] #[.int .u8 0, .int .i64 0, .slice (some ⟨b, o, none⟩) n4 c4] #[.slice none 0 0, .slice none 0 0, .slice none 0 0, .slice none 0 0]
  generalize ((w.alloc (.cells #[.slice A0 n0 c0, .slice A1 n1 c1, .slice A2 n2 c2, .slice A3 n3 c3] 67)).alloc (.cells #[.int .u8 0, .int .i64 0, .slice (some ⟨b, o, none⟩) n4 c4] 111)).alloc (.cells #[.slice none 0 0, .slice none 0 0, .slice none 0 0, .slice none 0 0] 67) = W at hst ⊢
  have HST := Lib.hid hst
  clear hst
  refine wp_region_plan 14 [(0, false), (1, false), (2, false), (3, false), (4, false), (5, false), (6, false), (7, false), (8, false), (9, false), (10, false), (13, false), (11, true), (12, true)] (fun w' => ImgStay w #[.slice A0 n0 c0, .slice A1 n1 c1, .slice A2 n2 c2, .slice A3 n3 c3] #[.int .u8 0, .int .i64 0, .slice (some ⟨b, o, none⟩) n4 c4] #[.slice none 0 0, .slice none 0 0, .slice none 0 0, .slice none 0 0] w') (by kernel_rfl) (by kernel_rfl) (fun c a d v w h => by cases d <;> exact h) HST.out.drew ?_
  repeat
    refine wpPlan_read (v := ?_) (by rfl) (by rfl) (fun w' hS => ?_) (fun K hK => ?_)
    rotate_left
    · obtain ⟨_, _, hcm5, hfm5, hcw5, hcr5, hfr5⟩ := hS.seen
      clear hS
      go_simp
      try with_reducible rfl
    go_simp
    refine hK _ ?_
    clear hK K
  refine wpPlan_write (by rfl) (fun K hK => ?_)
  go_simp
  refine hK.out _ _ (HST.out.drew.alloc _) ?_
  clear hK K
  refine wpPlan_write (by rfl) (fun K hK => ?_)
  go_simp
  refine (concat2_any W.drew.heap.size A2 (some ⟨b, o, none⟩) n2 many c2 c4 l2 (l4.take many) _ M2 M4 (by simp) (World.cell?_alloc_new _ _ _ _) (World.cell?_alloc_new _ _ _ _) (H2.out.step (Step.of_below (HST.out.1.drew.alloc HST.out.1.size _))) (H4.out.step (Step.of_below (HST.out.1.drew.alloc HST.out.1.size _))) (by omega) (by omega)).mono ?_
  rintro e w5 ⟨v5, rfl, hown5, hb5⟩
  obtain ⟨A5, m5, c5, rfl⟩ := own_slice0 hown5
  have HS5 := Lib.hid ((HST.out.drew.alloc _).below hb5)
  have HO5 := Lib.hid hown5
  clear hown5 hb5
  refine hK.out _ _ HS5.out ?_
  clear hK K
  obtain ⟨_, hsz5, hcm5, hfm5, hcw5, hcr5, hfr5⟩ := HS5.out.seen
  show wpList _ _ _ _ _ _
  go_wp2_with fail
  have hrow := blk_set0 (blk_set0 (blk_set0 (blk_set0 (set_far0 (i := 2) (u := .slice A5 m5 c5) HS5.out.2.2.2 (show w.heap.size ≠ w.heap.size + 1 + 1 by omega)) 0 (.slice A0 n0 c0)) 1 (.slice A1 n1 c1)) 2 (.slice A5 m5 c5)) 3 (.slice A3 n3 c3)
  refine bodyPost_ret (results_cell_row rfl _ _ (w.heap.size + 1 + 1) _ _ _ _ rfl hrow Tryz.underlying67 rfl (by kernel_rfl)) rfl ?_
  exact ⟨A5, m5, c5, rfl, own_far HO5.out (by have := HST.out.lt; simp; omega) (fun j hj => done_far j (by have := HST.out.lt; simp at hj; omega) (by have := HST.out.lt; simp at hj; omega)), done_below HS5.out.1⟩
set_option maxHeartbeats 4000000 in
theorem done_grow1 (A0 A1 A2 A3 : Option Addr) (n0 n1 n2 n3 n4 c0 c1 c2 c3 c4 b o : Nat) (many : Nat) (w : World) (M2 M4 : Nat → Prop) (l2 l4 : List UInt8) (h2 : By w M2 A3 n3 l2) (h4 : By w M4 (some ⟨b, o, none⟩) n4 l4) (hm : many ≤ n4) (hc : n4 ≤ c4) (hn2 : n3 ≤ 40000000) (hn4 : n4 ≤ 40000000) :
    Calls Tryz.prog 55 #[imgV (.slice A0 n0 c0) (.slice A1 n1 c1) (.slice A2 n2 c2) (.slice A3 n3 c3), .agg #[.int .u8 0, .int .i64 1, .slice (some ⟨b, o, none⟩) n4 c4], .int .i64 many] w fun e w' => ∃ A' n' c', e = .returned (imgV (.slice A0 n0 c0) (.slice A1 n1 c1) (.slice A2 n2 c2) (.slice A' n' c')) ∧ w'.ownsRow w.heap.size 5 1 (.slice A' n' c') (n3 + many) (u8s (l2 ++ l4.take many)) ∧ Below w.heap.size w w' := by
  have H2 := Lib.hid h2
  have H4 := Lib.hid (h4.take hm)
  have hm1 : (many : Int) ≤ (n4 : Int) := by omega
  have hm2 : (many : Int) ≤ (c4 : Int) := by omega
  have hm3 : many ≤ 40000000 := by omega
  clear h2 h4
  go_enter Tryz.func55, Tryz.ntmps55
  go_upto_region 5 with fail
  have hst := img_stay w #[.slice A0 n0 c0, .slice A1 n1 c1, .slice A2 n2 c2, .slice A3 n3 c3] #[.int .u8 0, .int .i64 1, .slice (some ⟨b, o, none⟩) n4 c4] #[.slice none 0 0, .slice none 0 0, .slice none 0 0, .slice none 0 0]
  generalize ((w.alloc (.cells #[.slice A0 n0 c0, .slice A1 n1 c1, .slice A2 n2 c2, .slice A3 n3 c3] 67)).alloc (.cells #[.int .u8 0, .int .i64 1, .slice (some ⟨b, o, none⟩) n4 c4] 111)).alloc (.cells #[.slice none 0 0, .slice none 0 0, .slice none 0 0, .slice none 0 0] 67) = W at hst ⊢
  have HST := Lib.hid hst
  clear hst
  refine wp_region_plan 14 [(0, false), (1, false), (2, false), (3, false), (4, false), (5, false), (6, false), (7, false), (8, false), (9, false), (10, false), (13, false), (11, true), (12, true)] (fun w' => ImgStay w #[.slice A0 n0 c0, .slice A1 n1 c1, .slice A2 n2 c2, .slice A3 n3 c3] #[.int .u8 0, .int .i64 1, .slice (some ⟨b, o, none⟩) n4 c4] #[.slice none 0 0, .slice none 0 0, .slice none 0 0, .slice none 0 0] w') (by kernel_rfl) (by kernel_rfl) (fun c a d v w h => by cases d <;> exact h) HST.out.drew ?_
  repeat
    refine wpPlan_read (v := ?_) (by rfl) (by rfl) (fun w' hS => ?_) (fun K hK => ?_)
    rotate_left
    · obtain ⟨_, _, hcm5, hfm5, hcw5, hcr5, hfr5⟩ := hS.seen
      clear hS
      go_simp
      try with_reducible rfl
    go_simp
    refine hK _ ?_
    clear hK K
  refine wpPlan_write (by rfl) (fun K hK => ?_)
  go_simp
  refine hK.out _ _ (HST.out.drew.alloc _) ?_
  clear hK K
  refine wpPlan_write (by rfl) (fun K hK => ?_)
  go_simp
  refine (concat2_any W.drew.heap.size A3 (some ⟨b, o, none⟩) n3 many c3 c4 l2 (l4.take many) _ M2 M4 (by simp) (World.cell?_alloc_new _ _ _ _) (World.cell?_alloc_new _ _ _ _) (H2.out.step (Step.of_below (HST.out.1.drew.alloc HST.out.1.size _))) (H4.out.step (Step.of_below (HST.out.1.drew.alloc HST.out.1.size _))) (by omega) (by omega)).mono ?_
  rintro e w5 ⟨v5, rfl, hown5, hb5⟩
  obtain ⟨A5, m5, c5, rfl⟩ := own_slice0 hown5
  have HS5 := Lib.hid ((HST.out.drew.alloc _).below hb5)
  have HO5 := Lib.hid hown5
  clear hown5 hb5
  refine hK.out _ _ HS5.out ?_
  clear hK K
  obtain ⟨_, hsz5, hcm5, hfm5, hcw5, hcr5, hfr5⟩ := HS5.out.seen
  show wpList _ _ _ _ _ _
  go_wp2_with fail
  have hrow := blk_set0 (blk_set0 (blk_set0 (blk_set0 (set_far0 (i := 3) (u := .slice A5 m5 c5) HS5.out.2.2.2 (show w.heap.size ≠ w.heap.size + 1 + 1 by omega)) 0 (.slice A0 n0 c0)) 1 (.slice A1 n1 c1)) 2 (.slice A2 n2 c2)) 3 (.slice A5 m5 c5)
  refine bodyPost_ret (results_cell_row rfl _ _ (w.heap.size + 1 + 1) _ _ _ _ rfl hrow Tryz.underlying67 rfl (by kernel_rfl)) rfl ?_
  exact ⟨A5, m5, c5, rfl, own_far HO5.out (by have := HST.out.lt; simp; omega) (fun j hj => done_far j (by have := HST.out.lt; simp at hj; omega) (by have := HST.out.lt; simp at hj; omega)), done_below HS5.out.1⟩
set_option maxHeartbeats 4000000 in
theorem done_head0 (A0 A1 A2 A3 : Option Addr) (n0 n1 n2 n3 n4 c0 c1 c2 c3 c4 b o : Nat) (many : Nat) (w : World) (M2 M4 : Nat → Prop) (l2 l4 : List UInt8) (h2 : By w M2 A0 n0 l2) (hc2 : n0 ≤ c0) (h4 : By w M4 (some ⟨b, o, none⟩) n4 l4) (hm : many ≤ n4) (hc : n4 ≤ c4) (hn2 : n0 ≤ 40000000) (hn4 : n4 ≤ 40000000) :
    Calls Tryz.prog 55 #[imgV (.slice A0 n0 c0) (.slice A1 n1 c1) (.slice A2 n2 c2) (.slice A3 n3 c3), .agg #[.int .u8 2, .int .i64 0, .slice (some ⟨b, o, none⟩) n4 c4], .int .i64 many] w fun e w' => ∃ A' n' c', e = .returned (imgV (.slice A' n' c') (.slice A1 n1 c1) (.slice A2 n2 c2) (.slice A3 n3 c3)) ∧ w'.ownsRow w.heap.size 5 1 (.slice A' n' c') (l4.take many ++ l2.drop many).length (u8s (l4.take many ++ l2.drop many)) ∧ Below w.heap.size w w' := by
  obtain ⟨kk, hkk⟩ : ∃ kk : Nat, kk = min many n0 := ⟨_, rfl⟩
  have hdrop : l2.drop many = l2.drop kk := by
    rcases Nat.le_total many n0 with h | h
    · rw [hkk, Nat.min_eq_left h]
    · rw [hkk, Nat.min_eq_right h, List.drop_of_length_le (by rw [h2.1]; exact h), List.drop_of_length_le (by rw [h2.1]; omega)]
  have H2 := Lib.hid (h2.drop (k := kk) (cap := c0) (by omega) hc2)
  have H4 := Lib.hid (h4.take hm)
  have HL := Lib.hid (show min many l4.length + (l2.length - kk) = many + (n0 - kk) by rw [h2.1, h4.1]; omega)
  rw [hdrop]
  have hm1 : (many : Int) ≤ (n4 : Int) := by omega
  have hm2 : (many : Int) ≤ (c4 : Int) := by omega
  have hm3 : many ≤ 40000000 := by omega
  have hmin : (if n0 < many then (n0 : Int) else (many : Int)) = (kk : Int) := by split <;> omega
  have hk1 : (kk : Int) ≤ (n0 : Int) := by omega
  have hk2 : kk ≤ n0 := by omega
  clear h2 h4 hkk hdrop
  go_enter Tryz.func55, Tryz.ntmps55
  go_upto_region 3 with fail
  have hst := img_stay w #[.slice A0 n0 c0, .slice A1 n1 c1, .slice A2 n2 c2, .slice A3 n3 c3] #[.int .u8 2, .int .i64 0, .slice (some ⟨b, o, none⟩) n4 c4] #[.slice none 0 0, .slice none 0 0, .slice none 0 0, .slice none 0 0]
  generalize ((w.alloc (.cells #[.slice A0 n0 c0, .slice A1 n1 c1, .slice A2 n2 c2, .slice A3 n3 c3] 67)).alloc (.cells #[.int .u8 2, .int .i64 0, .slice (some ⟨b, o, none⟩) n4 c4] 111)).alloc (.cells #[.slice none 0 0, .slice none 0 0, .slice none 0 0, .slice none 0 0] 67) = W at hst ⊢
  have HST := Lib.hid hst
  clear hst
  refine wp_region_plan 15 [(0, false), (1, false), (2, false), (3, false), (4, false), (5, false), (6, false), (7, false), (8, false), (9, false), (10, false), (11, false), (14, false), (12, true), (13, true)] (fun w' => ImgStay w #[.slice A0 n0 c0, .slice A1 n1 c1, .slice A2 n2 c2, .slice A3 n3 c3] #[.int .u8 2, .int .i64 0, .slice (some ⟨b, o, none⟩) n4 c4] #[.slice none 0 0, .slice none 0 0, .slice none 0 0, .slice none 0 0] w') (by kernel_rfl) (by kernel_rfl) (fun c a d v w h => by cases d <;> exact h) HST.out.drew ?_
  repeat
    refine wpPlan_read (v := ?_) (by rfl) (by rfl) (fun w' hS => ?_) (fun K hK => ?_)
    rotate_left
    · obtain ⟨_, _, hcm5, hfm5, hcw5, hcr5, hfr5⟩ := hS.seen
      clear hS
      go_simp
      try with_reducible rfl
    go_simp
    refine hK _ ?_
    clear hK K
  refine wpPlan_write (by rfl) (fun K hK => ?_)
  go_simp
  refine hK.out _ _ (HST.out.drew.alloc _) ?_
  clear hK K
  refine wpPlan_write (by rfl) (fun K hK => ?_)
  go_simp
  refine (concat2_any W.drew.heap.size (some ⟨b, o, none⟩) (if c0 = kk then A0 else A0.map (·.add kk)) many (n0 - kk) c4 (c0 - kk) (l4.take many) (l2.drop kk) _ M4 M2 (by simp) (World.cell?_alloc_new _ _ _ _) (World.cell?_alloc_new _ _ _ _) (H4.out.step (Step.of_below (HST.out.1.drew.alloc HST.out.1.size _))) (H2.out.step (Step.of_below (HST.out.1.drew.alloc HST.out.1.size _))) (by omega) (by omega)).mono ?_
  rintro e w5 ⟨v5, rfl, hown5, hb5⟩
  obtain ⟨A5, m5, c5, rfl⟩ := own_slice0 hown5
  have HS5 := Lib.hid ((HST.out.drew.alloc _).below hb5)
  have HO5 := Lib.hid hown5
  clear hown5 hb5
  refine hK.out _ _ HS5.out ?_
  clear hK K
  obtain ⟨_, hsz5, hcm5, hfm5, hcw5, hcr5, hfr5⟩ := HS5.out.seen
  show wpList _ _ _ _ _ _
  go_wp2_with fail
  all_goals
    have hrow := blk_set0 (blk_set0 (blk_set0 (blk_set0 (set_far0 (i := 0) (u := .slice A5 m5 c5) HS5.out.2.2.2 (show w.heap.size ≠ w.heap.size + 1 + 1 by omega)) 0 (.slice A5 m5 c5)) 1 (.slice A1 n1 c1)) 2 (.slice A2 n2 c2)) 3 (.slice A3 n3 c3)
    refine bodyPost_ret (results_cell_row rfl _ _ (w.heap.size + 1 + 1) _ _ _ _ rfl hrow Tryz.underlying67 rfl (by kernel_rfl)) rfl ?_
    refine ⟨A5, m5, c5, rfl, ?_, done_below HS5.out.1⟩
    rw [HL.out]
    exact own_far HO5.out (by have := HST.out.lt; simp; omega) (fun j hj => done_far j (by have := HST.out.lt; simp at hj; omega) (by have := HST.out.lt; simp at hj; omega))
set_option maxHeartbeats 4000000 in
theorem done_head1 (A0 A1 A2 A3 : Option Addr) (n0 n1 n2 n3 n4 c0 c1 c2 c3 c4 b o : Nat) (many : Nat) (w : World) (M2 M4 : Nat → Prop) (l2 l4 : List UInt8) (h2 : By w M2 A1 n1 l2) (hc2 : n1 ≤ c1) (h4 : By w M4 (some ⟨b, o, none⟩) n4 l4) (hm : many ≤ n4) (hc : n4 ≤ c4) (hn2 : n1 ≤ 40000000) (hn4 : n4 ≤ 40000000) :
    Calls Tryz.prog 55 #[imgV (.slice A0 n0 c0) (.slice A1 n1 c1) (.slice A2 n2 c2) (.slice A3 n3 c3), .agg #[.int .u8 2, .int .i64 1, .slice (some ⟨b, o, none⟩) n4 c4], .int .i64 many] w fun e w' => ∃ A' n' c', e = .returned (imgV (.slice A0 n0 c0) (.slice A' n' c') (.slice A2 n2 c2) (.slice A3 n3 c3)) ∧ w'.ownsRow w.heap.size 5 1 (.slice A' n' c') (l4.take many ++ l2.drop many).length (u8s (l4.take many ++ l2.drop many)) ∧ Below w.heap.size w w' := by
  obtain ⟨kk, hkk⟩ : ∃ kk : Nat, kk = min many n1 := ⟨_, rfl⟩
  have hdrop : l2.drop many = l2.drop kk := by
    rcases Nat.le_total many n1 with h | h
    · rw [hkk, Nat.min_eq_left h]
    · rw [hkk, Nat.min_eq_right h, List.drop_of_length_le (by rw [h2.1]; exact h), List.drop_of_length_le (by rw [h2.1]; omega)]
  have H2 := Lib.hid (h2.drop (k := kk) (cap := c1) (by omega) hc2)
  have H4 := Lib.hid (h4.take hm)
  have HL := Lib.hid (show min many l4.length + (l2.length - kk) = many + (n1 - kk) by rw [h2.1, h4.1]; omega)
  rw [hdrop]
  have hm1 : (many : Int) ≤ (n4 : Int) := by omega
  have hm2 : (many : Int) ≤ (c4 : Int) := by omega
  have hm3 : many ≤ 40000000 := by omega
  have hmin : (if n1 < many then (n1 : Int) else (many : Int)) = (kk : Int) := by split <;> omega
  have hk1 : (kk : Int) ≤ (n1 : Int) := by omega
  have hk2 : kk ≤ n1 := by omega
  clear h2 h4 hkk hdrop
  go_enter Tryz.func55, Tryz.ntmps55
  go_upto_region 3 with fail
  have hst := img_stay w #[.slice A0 n0 c0, .slice A1 n1 c1, .slice A2 n2 c2, .slice A3 n3 c3] #[.int .u8 2, .int .i64 1, .slice (some ⟨b, o, none⟩) n4 c4] #[.slice none 0 0, .slice none 0 0, .slice none 0 0, .slice none 0 0]
  generalize ((w.alloc (.cells #[.slice A0 n0 c0, .slice A1 n1 c1, .slice A2 n2 c2, .slice A3 n3 c3] 67)).alloc (.cells #[.int .u8 2, .int .i64 1, .slice (some ⟨b, o, none⟩) n4 c4] 111)).alloc (.cells #[.slice none 0 0, .slice none 0 0, .slice none 0 0, .slice none 0 0] 67) = W at hst ⊢
  have HST := Lib.hid hst
  clear hst
  refine wp_region_plan 15 [(0, false), (1, false), (2, false), (3, false), (4, false), (5, false), (6, false), (7, false), (8, false), (9, false), (10, false), (11, false), (14, false), (12, true), (13, true)] (fun w' => ImgStay w #[.slice A0 n0 c0, .slice A1 n1 c1, .slice A2 n2 c2, .slice A3 n3 c3] #[.int .u8 2, .int .i64 1, .slice (some ⟨b, o, none⟩) n4 c4] #[.slice none 0 0, .slice none 0 0, .slice none 0 0, .slice none 0 0] w') (by kernel_rfl) (by kernel_rfl) (fun c a d v w h => by cases d <;> exact h) HST.out.drew ?_
  repeat
    refine wpPlan_read (v := ?_) (by rfl) (by rfl) (fun w' hS => ?_) (fun K hK => ?_)
    rotate_left
    · obtain ⟨_, _, hcm5, hfm5, hcw5, hcr5, hfr5⟩ := hS.seen
      clear hS
      go_simp
      try with_reducible rfl
    go_simp
    refine hK _ ?_
    clear hK K
  refine wpPlan_write (by rfl) (fun K hK => ?_)
  go_simp
  refine hK.out _ _ (HST.out.drew.alloc _) ?_
  clear hK K
  refine wpPlan_write (by rfl) (fun K hK => ?_)
  go_simp
  refine (concat2_any W.drew.heap.size (some ⟨b, o, none⟩) (if c1 = kk then A1 else A1.map (·.add kk)) many (n1 - kk) c4 (c1 - kk) (l4.take many) (l2.drop kk) _ M4 M2 (by simp) (World.cell?_alloc_new _ _ _ _) (World.cell?_alloc_new _ _ _ _) (H4.out.step (Step.of_below (HST.out.1.drew.alloc HST.out.1.size _))) (H2.out.step (Step.of_below (HST.out.1.drew.alloc HST.out.1.size _))) (by omega) (by omega)).mono ?_
  rintro e w5 ⟨v5, rfl, hown5, hb5⟩
  obtain ⟨A5, m5, c5, rfl⟩ := own_slice0 hown5
  have HS5 := Lib.hid ((HST.out.drew.alloc _).below hb5)
  have HO5 := Lib.hid hown5
  clear hown5 hb5
  refine hK.out _ _ HS5.out ?_
  clear hK K
  obtain ⟨_, hsz5, hcm5, hfm5, hcw5, hcr5, hfr5⟩ := HS5.out.seen
  show wpList _ _ _ _ _ _
  go_wp2_with fail
  all_goals
    have hrow := blk_set0 (blk_set0 (blk_set0 (blk_set0 (set_far0 (i := 1) (u := .slice A5 m5 c5) HS5.out.2.2.2 (show w.heap.size ≠ w.heap.size + 1 + 1 by omega)) 0 (.slice A0 n0 c0)) 1 (.slice A5 m5 c5)) 2 (.slice A2 n2 c2)) 3 (.slice A3 n3 c3)
    refine bodyPost_ret (results_cell_row rfl _ _ (w.heap.size + 1 + 1) _ _ _ _ rfl hrow Tryz.underlying67 rfl (by kernel_rfl)) rfl ?_
    refine ⟨A5, m5, c5, rfl, ?_, done_below HS5.out.1⟩
    rw [HL.out]
    exact own_far HO5.out (by have := HST.out.lt; simp; omega) (fun j hj => done_far j (by have := HST.out.lt; simp at hj; omega) (by have := HST.out.lt; simp at hj; omega))
end Go.Proofs.YtjbepnkchoaipaaGreat
