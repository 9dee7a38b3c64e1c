/- StoresPut: the refused places. -/
import Derived.Test.YtojmckbpafkagaaGreatDoorSPut2
set_option linter.unusedVariables false
set_option linter.unusedSimpArgs false
namespace Go.Proofs.YtojmckbpafkagaaGreatDoor
open Go.RowKit Go.Lib Go.Maps
set_option maxRecDepth 100000
set_option maxHeartbeats 4000000 in
theorem putL_big (A B : Option Addr) (n m ca cb : Nat) (l bl : List UInt8) (p0 p1 : Int) (h : 300 < n ∨ 300 < m) (w : World) (hA : By w NoM A n l) (hB : By w NoM B m bl)
    (hlv : ∀ W, Below w.heap.size w W → Calls Tryz.prog 7 #[] W fun e w' => e = .returned (.bool true) ∧ Below W.heap.size W w') :
    Calls Tryz.prog 5 #[.slice A n ca, .agg #[.int .i64 p0, .int .i64 p1], .slice B m cb] w fun e w' => e = .returned (.bool true) ∧ Below w.heap.size w w' := by
  have HLV := Lib.hid hlv
  have HA := Lib.hid hA
  have HB := Lib.hid hB
  have hbx : Below w.heap.size w (w.alloc (.cells #[.int .i64 p0, .int .i64 p1] 23)) := (Below.refl _ w).alloc (Nat.le_refl _) _
  have HBX := Lib.hid hbx
  clear hlv hA hB
  have HBL := HBX
  by_cases h1 : 300 < n
  · have h1' : (300 : Int) < (n : Nat) := by omega
    go_enter Tryz.func5, Tryz.ntmps5
    go_wp2_with fail
    refine (HLV.out _ HBL.out).mono ?_
    rintro e w9 ⟨rfl, hb9⟩
    have HB9 := Lib.hid (HBL.out.trans (hb9.mono HBL.out.size))
    clear hb9
    go_wp2_with fail
    go_ret
    exact ⟨rfl, HB9.out⟩
  · have h1' : ¬ (300 : Int) < (n : Nat) := by omega
    have h2' : (300 : Int) < (m : Nat) := by omega
    go_enter Tryz.func5, Tryz.ntmps5
    go_wp2_with fail
    refine (HLV.out _ HBL.out).mono ?_
    rintro e w9 ⟨rfl, hb9⟩
    have HB9 := Lib.hid (HBL.out.trans (hb9.mono HBL.out.size))
    clear hb9
    go_wp2_with fail
    go_ret
    exact ⟨rfl, HB9.out⟩
theorem wpList_skipU {P : Program} {ops : Array Oper} {Q : Exit → Act → World → Prop} {a : Act} {w : World} {o : Oper} {rest : List Oper} (h : Region.wanted o (yielded ops a.tmps) = false) (hk : wpList P ops Q rest (a.put o.dst undef) w) : wpList P ops Q (o :: rest) a w := by
  unfold wpList
  rw [if_neg (by simp [h])]
  exact hk
theorem box_cells (p0 p1 : Int) (w : World) : (w.alloc (.cells #[.int .i64 p0, .int .i64 p1] 23)).cell? ⟨w.heap.size, 0, none⟩ = some (.int .i64 p0) ∧ (w.alloc (.cells #[.int .i64 p0, .int .i64 p1] 23)).cell? ⟨w.heap.size, 1, none⟩ = some (.int .i64 p1) := cells_place p0 p1 w _ (Below.refl _ _)
set_option maxHeartbeats 4000000 in
theorem putL_bad (A B : Option Addr) (n m ca cb : Nat) (l bl : List UInt8) (p0 p1 : Int) (hn : n ≤ 300) (hm : m ≤ 300) (h : wi n p0 p1 ≠ 0) (w : World) (hA : By w NoM A n l) (hB : By w NoM B m bl)
    (hlv : ∀ W, Below w.heap.size w W → Calls Tryz.prog 7 #[] W fun e w' => e = .returned (.bool true) ∧ Below W.heap.size W w') :
    Calls Tryz.prog 5 #[.slice A n ca, .agg #[.int .i64 p0, .int .i64 p1], .slice B m cb] w fun e w' => e = .returned (.bool true) ∧ Below w.heap.size w w' := by
  have HLV := Lib.hid hlv
  have HA := Lib.hid hA
  have HB := Lib.hid hB
  have hbx : Below w.heap.size w (w.alloc (.cells #[.int .i64 p0, .int .i64 p1] 23)) := (Below.refl _ w).alloc (Nat.le_refl _) _
  have HBX := Lib.hid hbx
  clear hlv hA hB
  have h1' : ¬ (300 : Int) < (n : Nat) := by omega
  have h2' : ¬ (300 : Int) < (m : Nat) := by omega
  have HG := Lib.hid (fun W => get_bad A n ca p0 p1 W (by omega) h)
  have HP := Lib.hid (fun W => put_bad A n ca p0 p1 B m cb W (by omega) h)
  by_cases q0 : p0 < 0
  · have e : wi n p0 p1 = 1 := by simp [wi, q0]
    rw [e] at HG HP
    clear h hn hm
    have hbx2 : Below w.heap.size w (w.alloc (.cells #[.int .i64 p0, .int .i64 p1] 23)).drew := ⟨hbx.os, hbx.tape, hbx.output, hbx.size, hbx.block⟩
    go_enter Tryz.func5, Tryz.ntmps5
    go_upto_region 3 with fail
    refine wp_region_plan 5 [(0, false), (1, false), (2, false), (3, false), (4, false)] (fun w' => By w' NoM A n l ∧ By w' NoM B m bl) (by kernel_rfl) (by kernel_rfl) (fun c a d v w h => by cases d <;> exact h) ⟨HA.out.below hbx2, HB.out.below hbx2⟩ ?_
    repeat
      first
      | (first | refine wpPlan_read (v := ?_) (by rfl) (by rfl) (fun w' hS => ?_) (fun K hK => ?_) | refine wpPlan_readG (v := ?_) (by rfl) (by rfl) (fun w' hS => ?_) (fun K hK => ?_)
         rotate_left
         · obtain ⟨s0, s1⟩ := hS
           have k0 := run_str_by (c := ca) s0
           have k1 := run_str_by (c := cb) s1
           go_simp
           try with_reducible rfl
         go_simp
         refine hK _ ?_
         clear hK K)
      | (refine wpPlan_skip (by rfl) (by rfl) (fun K hK => ?_)
         go_simp
         refine hK _ ?_
         clear hK K)
    show wpList _ _ _ _ _ _
    have hcc : ∀ W', Below (w.alloc (.cells #[.int .i64 p0, .int .i64 p1] 23)).drew.heap.size (w.alloc (.cells #[.int .i64 p0, .int .i64 p1] 23)).drew W' → W'.cell? ⟨w.heap.size, 0, none⟩ = some (.int .i64 p0) ∧ W'.cell? ⟨w.heap.size, 1, none⟩ = some (.int .i64 p1) := fun W' hb => cells_place _ _ w W' ⟨hb.os, hb.tape, hb.output, hb.size, hb.block⟩
    have HB0 := Lib.hid hbx2
    have HCC := Lib.hid hcc
    obtain ⟨c0, c1⟩ := hcc _ (Below.refl _ _)
    clear hbx hbx2 hcc HBX
    generalize (w.alloc (.cells #[.int .i64 p0, .int .i64 p1] 23)).drew = W0 at HB0 HCC c0 c1 ⊢
    go_wp2_with fail
    refine (HG.out W0).mono ?_
    rintro e w1 ⟨rfl, hb1⟩
    have HB1 := Lib.hid hb1
    clear hb1 c0 c1
    go_upto_region 10 with fail
    refine wp_region_plan 33 [(0, false), (1, false), (2, false), (3, false), (4, false), (5, false), (6, false), (7, false), (8, false), (9, false), (10, false), (11, false), (12, false), (13, false), (14, false), (15, false), (16, false), (17, false), (18, false), (19, false), (20, false), (21, false), (22, false), (23, false), (24, false), (25, false), (26, false), (27, false), (28, false), (29, false), (30, false), (31, false), (32, false)] (fun _ => True ∧ True) (by kernel_rfl) (by kernel_rfl) (fun c a d v w h => by cases d <;> exact h) ⟨trivial, trivial⟩ ?_
    repeat
      first
      | (first | refine wpPlan_read (v := ?_) (by rfl) (by rfl) (fun w' hS => ?_) (fun K hK => ?_) | refine wpPlan_readG (v := ?_) (by rfl) (by rfl) (fun w' hS => ?_) (fun K hK => ?_)
         rotate_left
         · obtain ⟨s0, s1⟩ := hS
           go_simp
           try with_reducible rfl
         go_simp
         refine hK _ ?_
         clear hK K)
      | (refine wpPlan_skip (by rfl) (by rfl) (fun K hK => ?_)
         go_simp
         refine hK _ ?_
         clear hK K)
    show wpList _ _ _ _ _ _
    refine wpList_skipU (by rfl) ?_
    refine wpList_skipU (by rfl) ?_
    obtain ⟨c0, c1⟩ := HCC.out w1.drew ⟨HB1.out.os, HB1.out.tape, HB1.out.output, HB1.out.size, HB1.out.block⟩
    have HB2 : Hid (Below W0.heap.size W0 w1.drew) := Lib.hid ⟨HB1.out.os, HB1.out.tape, HB1.out.output, HB1.out.size, HB1.out.block⟩
    clear HB1
    generalize w1.drew = W2 at HB2 c0 c1 ⊢
    go_wp2_with fail
    refine (HP.out W2).mono ?_
    rintro e w3 ⟨rfl, hb3⟩
    have HB3 : Hid (Below w.heap.size w w3) := Lib.hid (HB0.out.trans ((HB2.out.trans (hb3.mono HB2.out.size)).mono HB0.out.size))
    have k0 := run_str_by (c := ca) (HA.out.below HB3.out)
    have k1 := run_str_by (c := cb) (HB.out.below HB3.out)
    clear hb3 c0 c1 HB2
    go_wp2_with fail
    have HBL := HB3
    refine (HLV.out _ HBL.out).mono ?_
    rintro e w9 ⟨rfl, hb9⟩
    have HB9 := Lib.hid (HBL.out.trans (hb9.mono HBL.out.size))
    clear hb9
    go_wp2_with fail
    go_ret
    exact ⟨rfl, HB9.out⟩
  · by_cases q1 : p1 < 0
    · have e : wi n p0 p1 = 1 := by simp [wi, q1]
      rw [e] at HG HP
      clear h hn hm
      have hbx2 : Below w.heap.size w (w.alloc (.cells #[.int .i64 p0, .int .i64 p1] 23)).drew := ⟨hbx.os, hbx.tape, hbx.output, hbx.size, hbx.block⟩
      go_enter Tryz.func5, Tryz.ntmps5
      go_upto_region 3 with fail
      refine wp_region_plan 5 [(0, false), (1, false), (2, false), (3, false), (4, false)] (fun w' => By w' NoM A n l ∧ By w' NoM B m bl) (by kernel_rfl) (by kernel_rfl) (fun c a d v w h => by cases d <;> exact h) ⟨HA.out.below hbx2, HB.out.below hbx2⟩ ?_
      repeat
        first
        | (first | refine wpPlan_read (v := ?_) (by rfl) (by rfl) (fun w' hS => ?_) (fun K hK => ?_) | refine wpPlan_readG (v := ?_) (by rfl) (by rfl) (fun w' hS => ?_) (fun K hK => ?_)
           rotate_left
           · obtain ⟨s0, s1⟩ := hS
             have k0 := run_str_by (c := ca) s0
             have k1 := run_str_by (c := cb) s1
             go_simp
             try with_reducible rfl
           go_simp
           refine hK _ ?_
           clear hK K)
        | (refine wpPlan_skip (by rfl) (by rfl) (fun K hK => ?_)
           go_simp
           refine hK _ ?_
           clear hK K)
      show wpList _ _ _ _ _ _
      have hcc : ∀ W', Below (w.alloc (.cells #[.int .i64 p0, .int .i64 p1] 23)).drew.heap.size (w.alloc (.cells #[.int .i64 p0, .int .i64 p1] 23)).drew W' → W'.cell? ⟨w.heap.size, 0, none⟩ = some (.int .i64 p0) ∧ W'.cell? ⟨w.heap.size, 1, none⟩ = some (.int .i64 p1) := fun W' hb => cells_place _ _ w W' ⟨hb.os, hb.tape, hb.output, hb.size, hb.block⟩
      have HB0 := Lib.hid hbx2
      have HCC := Lib.hid hcc
      obtain ⟨c0, c1⟩ := hcc _ (Below.refl _ _)
      clear hbx hbx2 hcc HBX
      generalize (w.alloc (.cells #[.int .i64 p0, .int .i64 p1] 23)).drew = W0 at HB0 HCC c0 c1 ⊢
      go_wp2_with fail
      refine (HG.out W0).mono ?_
      rintro e w1 ⟨rfl, hb1⟩
      have HB1 := Lib.hid hb1
      clear hb1 c0 c1
      go_upto_region 10 with fail
      refine wp_region_plan 33 [(0, false), (1, false), (2, false), (3, false), (4, false), (5, false), (6, false), (7, false), (8, false), (9, false), (10, false), (11, false), (12, false), (13, false), (14, false), (15, false), (16, false), (17, false), (18, false), (19, false), (20, false), (21, false), (22, false), (23, false), (24, false), (25, false), (26, false), (27, false), (28, false), (29, false), (30, false), (31, false), (32, false)] (fun _ => True ∧ True) (by kernel_rfl) (by kernel_rfl) (fun c a d v w h => by cases d <;> exact h) ⟨trivial, trivial⟩ ?_
      repeat
        first
        | (first | refine wpPlan_read (v := ?_) (by rfl) (by rfl) (fun w' hS => ?_) (fun K hK => ?_) | refine wpPlan_readG (v := ?_) (by rfl) (by rfl) (fun w' hS => ?_) (fun K hK => ?_)
           rotate_left
           · obtain ⟨s0, s1⟩ := hS
             go_simp
             try with_reducible rfl
           go_simp
           refine hK _ ?_
           clear hK K)
        | (refine wpPlan_skip (by rfl) (by rfl) (fun K hK => ?_)
           go_simp
           refine hK _ ?_
           clear hK K)
      show wpList _ _ _ _ _ _
      refine wpList_skipU (by rfl) ?_
      refine wpList_skipU (by rfl) ?_
      obtain ⟨c0, c1⟩ := HCC.out w1.drew ⟨HB1.out.os, HB1.out.tape, HB1.out.output, HB1.out.size, HB1.out.block⟩
      have HB2 : Hid (Below W0.heap.size W0 w1.drew) := Lib.hid ⟨HB1.out.os, HB1.out.tape, HB1.out.output, HB1.out.size, HB1.out.block⟩
      clear HB1
      generalize w1.drew = W2 at HB2 c0 c1 ⊢
      go_wp2_with fail
      refine (HP.out W2).mono ?_
      rintro e w3 ⟨rfl, hb3⟩
      have HB3 : Hid (Below w.heap.size w w3) := Lib.hid (HB0.out.trans ((HB2.out.trans (hb3.mono HB2.out.size)).mono HB0.out.size))
      have k0 := run_str_by (c := ca) (HA.out.below HB3.out)
      have k1 := run_str_by (c := cb) (HB.out.below HB3.out)
      clear hb3 c0 c1 HB2
      go_wp2_with fail
      have HBL := HB3
      refine (HLV.out _ HBL.out).mono ?_
      rintro e w9 ⟨rfl, hb9⟩
      have HB9 := Lib.hid (HBL.out.trans (hb9.mono HBL.out.size))
      clear hb9
      go_wp2_with fail
      go_ret
      exact ⟨rfl, HB9.out⟩
    · have r0 : (n : Int) < p0 ∨ (n : Int) - p0 < p1 := by
        by_cases hh : (n : Int) < p0 ∨ (n : Int) - p0 < p1
        · exact hh
        · exact absurd (by simp only [wi]; rw [if_neg (by omega), if_neg hh]) h
      have e : wi n p0 p1 = 5 := by simp only [wi]; rw [if_neg (by omega), if_pos r0]
      rw [e] at HG HP
      by_cases q2 : (n : Int) < p0
      · clear h hn hm r0
        have hbx2 : Below w.heap.size w (w.alloc (.cells #[.int .i64 p0, .int .i64 p1] 23)).drew := ⟨hbx.os, hbx.tape, hbx.output, hbx.size, hbx.block⟩
        go_enter Tryz.func5, Tryz.ntmps5
        go_upto_region 3 with fail
        refine wp_region_plan 5 [(0, false), (1, false), (2, false), (3, false), (4, false)] (fun w' => By w' NoM A n l ∧ By w' NoM B m bl) (by kernel_rfl) (by kernel_rfl) (fun c a d v w h => by cases d <;> exact h) ⟨HA.out.below hbx2, HB.out.below hbx2⟩ ?_
        repeat
          first
          | (first | refine wpPlan_read (v := ?_) (by rfl) (by rfl) (fun w' hS => ?_) (fun K hK => ?_) | refine wpPlan_readG (v := ?_) (by rfl) (by rfl) (fun w' hS => ?_) (fun K hK => ?_)
             rotate_left
             · obtain ⟨s0, s1⟩ := hS
               have k0 := run_str_by (c := ca) s0
               have k1 := run_str_by (c := cb) s1
               go_simp
               try with_reducible rfl
             go_simp
             refine hK _ ?_
             clear hK K)
          | (refine wpPlan_skip (by rfl) (by rfl) (fun K hK => ?_)
             go_simp
             refine hK _ ?_
             clear hK K)
        show wpList _ _ _ _ _ _
        have hcc : ∀ W', Below (w.alloc (.cells #[.int .i64 p0, .int .i64 p1] 23)).drew.heap.size (w.alloc (.cells #[.int .i64 p0, .int .i64 p1] 23)).drew W' → W'.cell? ⟨w.heap.size, 0, none⟩ = some (.int .i64 p0) ∧ W'.cell? ⟨w.heap.size, 1, none⟩ = some (.int .i64 p1) := fun W' hb => cells_place _ _ w W' ⟨hb.os, hb.tape, hb.output, hb.size, hb.block⟩
        have HB0 := Lib.hid hbx2
        have HCC := Lib.hid hcc
        obtain ⟨c0, c1⟩ := hcc _ (Below.refl _ _)
        clear hbx hbx2 hcc HBX
        generalize (w.alloc (.cells #[.int .i64 p0, .int .i64 p1] 23)).drew = W0 at HB0 HCC c0 c1 ⊢
        go_wp2_with fail
        refine (HG.out W0).mono ?_
        rintro e w1 ⟨rfl, hb1⟩
        have HB1 := Lib.hid hb1
        clear hb1 c0 c1
        go_upto_region 10 with fail
        refine wp_region_plan 33 [(0, false), (1, false), (2, false), (3, false), (4, false), (5, false), (6, false), (7, false), (8, false), (9, false), (10, false), (11, false), (12, false), (13, false), (14, false), (15, false), (16, false), (17, false), (18, false), (19, false), (20, false), (21, false), (22, false), (23, false), (24, false), (25, false), (26, false), (27, false), (28, false), (29, false), (30, false), (31, false), (32, false)] (fun _ => True ∧ True) (by kernel_rfl) (by kernel_rfl) (fun c a d v w h => by cases d <;> exact h) ⟨trivial, trivial⟩ ?_
        repeat
          first
          | (first | refine wpPlan_read (v := ?_) (by rfl) (by rfl) (fun w' hS => ?_) (fun K hK => ?_) | refine wpPlan_readG (v := ?_) (by rfl) (by rfl) (fun w' hS => ?_) (fun K hK => ?_)
             rotate_left
             · obtain ⟨s0, s1⟩ := hS
               go_simp
               try with_reducible rfl
             go_simp
             refine hK _ ?_
             clear hK K)
          | (refine wpPlan_skip (by rfl) (by rfl) (fun K hK => ?_)
             go_simp
             refine hK _ ?_
             clear hK K)
        show wpList _ _ _ _ _ _
        refine wpList_skipU (by rfl) ?_
        refine wpList_skipU (by rfl) ?_
        obtain ⟨c0, c1⟩ := HCC.out w1.drew ⟨HB1.out.os, HB1.out.tape, HB1.out.output, HB1.out.size, HB1.out.block⟩
        have HB2 : Hid (Below W0.heap.size W0 w1.drew) := Lib.hid ⟨HB1.out.os, HB1.out.tape, HB1.out.output, HB1.out.size, HB1.out.block⟩
        clear HB1
        generalize w1.drew = W2 at HB2 c0 c1 ⊢
        go_wp2_with fail
        refine (HP.out W2).mono ?_
        rintro e w3 ⟨rfl, hb3⟩
        have HB3 : Hid (Below w.heap.size w w3) := Lib.hid (HB0.out.trans ((HB2.out.trans (hb3.mono HB2.out.size)).mono HB0.out.size))
        have k0 := run_str_by (c := ca) (HA.out.below HB3.out)
        have k1 := run_str_by (c := cb) (HB.out.below HB3.out)
        clear hb3 c0 c1 HB2
        go_wp2_with fail
        have HBL := HB3
        refine (HLV.out _ HBL.out).mono ?_
        rintro e w9 ⟨rfl, hb9⟩
        have HB9 := Lib.hid (HBL.out.trans (hb9.mono HBL.out.size))
        clear hb9
        go_wp2_with fail
        go_ret
        exact ⟨rfl, HB9.out⟩
      · have q3 : (n : Int) - p0 < p1 := r0.resolve_left q2
        have r1 := i64_sub n p0 (by omega) (by omega) (by omega)
        have r2 := w64_sub n p0 (by omega) (by omega) (by omega)
        clear h hn hm r0
        have hbx2 : Below w.heap.size w (w.alloc (.cells #[.int .i64 p0, .int .i64 p1] 23)).drew := ⟨hbx.os, hbx.tape, hbx.output, hbx.size, hbx.block⟩
        go_enter Tryz.func5, Tryz.ntmps5
        go_upto_region 3 with fail
        refine wp_region_plan 5 [(0, false), (1, false), (2, false), (3, false), (4, false)] (fun w' => By w' NoM A n l ∧ By w' NoM B m bl) (by kernel_rfl) (by kernel_rfl) (fun c a d v w h => by cases d <;> exact h) ⟨HA.out.below hbx2, HB.out.below hbx2⟩ ?_
        repeat
          first
          | (first | refine wpPlan_read (v := ?_) (by rfl) (by rfl) (fun w' hS => ?_) (fun K hK => ?_) | refine wpPlan_readG (v := ?_) (by rfl) (by rfl) (fun w' hS => ?_) (fun K hK => ?_)
             rotate_left
             · obtain ⟨s0, s1⟩ := hS
               have k0 := run_str_by (c := ca) s0
               have k1 := run_str_by (c := cb) s1
               go_simp
               try with_reducible rfl
             go_simp
             refine hK _ ?_
             clear hK K)
          | (refine wpPlan_skip (by rfl) (by rfl) (fun K hK => ?_)
             go_simp
             refine hK _ ?_
             clear hK K)
        show wpList _ _ _ _ _ _
        have hcc : ∀ W', Below (w.alloc (.cells #[.int .i64 p0, .int .i64 p1] 23)).drew.heap.size (w.alloc (.cells #[.int .i64 p0, .int .i64 p1] 23)).drew W' → W'.cell? ⟨w.heap.size, 0, none⟩ = some (.int .i64 p0) ∧ W'.cell? ⟨w.heap.size, 1, none⟩ = some (.int .i64 p1) := fun W' hb => cells_place _ _ w W' ⟨hb.os, hb.tape, hb.output, hb.size, hb.block⟩
        have HB0 := Lib.hid hbx2
        have HCC := Lib.hid hcc
        obtain ⟨c0, c1⟩ := hcc _ (Below.refl _ _)
        clear hbx hbx2 hcc HBX
        generalize (w.alloc (.cells #[.int .i64 p0, .int .i64 p1] 23)).drew = W0 at HB0 HCC c0 c1 ⊢
        go_wp2_with fail
        refine (HG.out W0).mono ?_
        rintro e w1 ⟨rfl, hb1⟩
        have HB1 := Lib.hid hb1
        clear hb1 c0 c1
        go_upto_region 10 with fail
        refine wp_region_plan 33 [(0, false), (1, false), (2, false), (3, false), (4, false), (5, false), (6, false), (7, false), (8, false), (9, false), (10, false), (11, false), (12, false), (13, false), (14, false), (15, false), (16, false), (17, false), (18, false), (19, false), (20, false), (21, false), (22, false), (23, false), (24, false), (25, false), (26, false), (27, false), (28, false), (29, false), (30, false), (31, false), (32, false)] (fun _ => True ∧ True) (by kernel_rfl) (by kernel_rfl) (fun c a d v w h => by cases d <;> exact h) ⟨trivial, trivial⟩ ?_
        repeat
          first
          | (first | refine wpPlan_read (v := ?_) (by rfl) (by rfl) (fun w' hS => ?_) (fun K hK => ?_) | refine wpPlan_readG (v := ?_) (by rfl) (by rfl) (fun w' hS => ?_) (fun K hK => ?_)
             rotate_left
             · obtain ⟨s0, s1⟩ := hS
               go_simp
               try with_reducible rfl
             go_simp
             refine hK _ ?_
             clear hK K)
          | (refine wpPlan_skip (by rfl) (by rfl) (fun K hK => ?_)
             go_simp
             refine hK _ ?_
             clear hK K)
        show wpList _ _ _ _ _ _
        refine wpList_skipU (by rfl) ?_
        refine wpList_skipU (by rfl) ?_
        obtain ⟨c0, c1⟩ := HCC.out w1.drew ⟨HB1.out.os, HB1.out.tape, HB1.out.output, HB1.out.size, HB1.out.block⟩
        have HB2 : Hid (Below W0.heap.size W0 w1.drew) := Lib.hid ⟨HB1.out.os, HB1.out.tape, HB1.out.output, HB1.out.size, HB1.out.block⟩
        clear HB1
        generalize w1.drew = W2 at HB2 c0 c1 ⊢
        go_wp2_with fail
        refine (HP.out W2).mono ?_
        rintro e w3 ⟨rfl, hb3⟩
        have HB3 : Hid (Below w.heap.size w w3) := Lib.hid (HB0.out.trans ((HB2.out.trans (hb3.mono HB2.out.size)).mono HB0.out.size))
        have k0 := run_str_by (c := ca) (HA.out.below HB3.out)
        have k1 := run_str_by (c := cb) (HB.out.below HB3.out)
        clear hb3 c0 c1 HB2
        go_wp2_with fail
        have HBL := HB3
        refine (HLV.out _ HBL.out).mono ?_
        rintro e w9 ⟨rfl, hb9⟩
        have HB9 := Lib.hid (HBL.out.trans (hb9.mono HBL.out.size))
        clear hb9
        go_wp2_with fail
        go_ret
        exact ⟨rfl, HB9.out⟩
end Go.Proofs.YtojmckbpafkagaaGreatDoor
