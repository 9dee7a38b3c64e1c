/- StoresPut: the place that is possible. -/
import Derived.Test.YtojmckbpafkagaaGreatDoorSPutW
set_option linter.unusedVariables false
set_option linter.unusedSimpArgs false
namespace Go.Proofs.YtojmckbpafkagaaGreatDoor
open Go.RowKit Go.Lib Go.Maps
set_option maxRecDepth 100000
theorem ext_part (l : List UInt8) (i j : Nat) : (⟨((l.take j).drop i).toArray⟩ : ByteArray) = (⟨l.toArray⟩ : ByteArray).extract i j := by
  apply ByteArray.ext
  apply Array.toList_inj.1
  rw [ByteArray.data_extract]
  simp [List.drop_take]
set_option maxHeartbeats 4000000 in
theorem putL_len (A B : Option Addr) (n m ca cb : Nat) (l bl : List UInt8) (i k : Nat) (hn : n ≤ 300) (hm : m ≤ 300) (hik : i + k ≤ n) (hmk : m ≠ k) (hca : (∃ a, A = some a ∧ n ≤ ca) ∨ (A = none ∧ n = 0 ∧ ca = 0)) (w : World) (hA : By w NoM A n l) (hB : By w NoM B m bl)
    (hlv : ∀ W, Below w.heap.size w W → Calls Tryz.prog 7 #[] W fun e w' => e = .returned (.bool true) ∧ Below W.heap.size W w') :
    Calls Tryz.prog 5 #[.slice A n ca, .agg #[.int .i64 (i : Nat), .int .i64 (k : Nat)], .slice B m cb] w fun e w' => e = .returned (.bool true) ∧ Below w.heap.size w w' := by
  have HLV := Lib.hid hlv
  have HA := Lib.hid hA
  have HB := Lib.hid hB
  have hbx : Below w.heap.size w (w.alloc (.cells #[.int .i64 (i : Nat), .int .i64 (k : Nat)] 23)) := (Below.refl _ w).alloc (Nat.le_refl _) _
  have HBX := Lib.hid hbx
  clear hlv hA hB
  have hmk' : ((m : Int) != (k : Int)) = true := by simp; omega
  have hwi : wi n (i : Nat) (k : Nat) = 0 := by unfold wi; rw [if_neg (by omega), if_neg (by omega)]
  have HP := Lib.hid (fun W => put_len A n ca (i : Nat) (k : Nat) B m cb W (by omega) hwi (by omega))
  have h1' : ¬ (300 : Int) < (n : Nat) := by omega
  have h2' : ¬ (300 : Int) < (m : Nat) := by omega
  have q0 : ¬ (i : Int) < 0 := by omega
  have q1 : ¬ (k : Int) < 0 := by omega
  have q2 : ¬ (n : Int) < (i : Nat) := by omega
  have q3 : ¬ (n : Int) - (i : Int) < (k : Nat) := by omega
  have q5 : (0 : Int) ≤ (i : Int) + (k : Int) := by omega
  have q6 : (i : Int) + (k : Int) ≤ (n : Int) := by omega
  have q7 : (i : Int) ≤ (i : Int) + (k : Int) := by omega
  have q8 : ((i : Int) + (k : Int)).toNat = i + k := by omega
  have r1 := i64_sub n (i : Nat) (by omega) (by omega) (by omega)
  have r2 := w64_sub n (i : Nat) (by omega) (by omega) (by omega)
  have r3 : wrap64 ((i : Int) + (k : Int)) = (i : Int) + (k : Int) := aw64 i k (by omega)
  have r4 : IntKind.i64.wrap ((i : Int) + (k : Int)) = (i : Int) + (k : Int) := ai64 i k (by omega)
  obtain ⟨S0, hS0⟩ : ∃ S : ByteArray, S = ⟨l.toArray⟩ := ⟨_, rfl⟩
  obtain ⟨S1, hS1⟩ : ∃ S : ByteArray, S = ⟨bl.toArray⟩ := ⟨_, rfl⟩
  have KA := Lib.hid (fun (w' : World) M (h : By w' M A n l) => (run_str_by (c := ca) h).trans (by rw [← hS0]))
  have KB := Lib.hid (fun (w' : World) M (h : By w' M B m bl) => (run_str_by (c := cb) h).trans (by rw [← hS1]))
  have KO := Lib.hid (fun (C : Option Addr) (w' : World) M (h : By w' M C k ((l.take (i + k)).drop i)) => (run_str_by (c := k) h).trans (by rw [ext_part, ← hS0]))
  have hls : S0.size = n := by rw [hS0]; exact HA.out.1
  have HS0 := Lib.hid hS0
  have HS1 := Lib.hid hS1
  clear hS0 hS1
  have HG := Lib.hid (fun W hb => get_ok A n ca i k l W (by omega) hik (By.below HA.out hb) hca)
  have hbx2 : Below w.heap.size w (w.alloc (.cells #[.int .i64 (i : Nat), .int .i64 (k : Nat)] 23)).drew := ⟨hbx.os, hbx.tape, hbx.output, hbx.size, hbx.block⟩
  go_enter Tryz.func5, Tryz.ntmps5
  go_upto_region 3 with fail
  refine wp_region_plan 5 [(0, false), (1, false), (2, false), (3, false), (4, false)] (fun w' => By w' NoM A n l ∧ By w' NoM B m bl) (by kernel_rfl) (by kernel_rfl) (fun c a d v w h => by cases d <;> exact h) ⟨HA.out.below hbx2, HB.out.below hbx2⟩ ?_
  repeat
    first
    | (first | refine wpPlan_read (v := ?_) (by rfl) (by rfl) (fun w' hS => ?_) (fun K hK => ?_) | refine wpPlan_readG (v := ?_) (by rfl) (by rfl) (fun w' hS => ?_) (fun K hK => ?_)
       rotate_left
       · obtain ⟨s0, s1⟩ := hS
         have k0 := KA.out _ _ s0
         have k1 := KB.out _ _ s1
         go_simp
         try with_reducible rfl
       go_simp
       refine hK _ ?_
       clear hK K)
    | (refine wpPlan_skip (by rfl) (by rfl) (fun K hK => ?_)
       go_simp
       refine hK _ ?_
       clear hK K)
  show wpList _ _ _ _ _ _
  have hcc : ∀ W', Below (w.alloc (.cells #[.int .i64 (i : Nat), .int .i64 (k : Nat)] 23)).drew.heap.size (w.alloc (.cells #[.int .i64 (i : Nat), .int .i64 (k : Nat)] 23)).drew W' → W'.cell? ⟨w.heap.size, 0, none⟩ = some (.int .i64 (i : Nat)) ∧ W'.cell? ⟨w.heap.size, 1, none⟩ = some (.int .i64 (k : Nat)) := fun W' hb => cells_place _ _ w W' ⟨hb.os, hb.tape, hb.output, hb.size, hb.block⟩
  have HB0 := Lib.hid hbx2
  have HCC := Lib.hid hcc
  obtain ⟨c0, c1⟩ := hcc _ (Below.refl _ _)
  clear hbx hbx2 hcc HBX
  generalize (w.alloc (.cells #[.int .i64 (i : Nat), .int .i64 (k : Nat)] 23)).drew = W0 at HB0 HCC c0 c1 ⊢
  go_wp2_with fail
  refine (HG.out W0 HB0.out).mono ?_
  rintro e w1 ⟨C, rfl, hby, hb1⟩
  obtain ⟨c0', c1'⟩ := HCC.out w1 hb1
  have HB1 := Lib.hid hb1
  clear hb1 c0 c1
  go_upto_region 10 with fail
  refine wp_region_plan 33 [(0, false), (1, false), (2, false), (3, false), (4, false), (5, false), (6, false), (7, false), (8, false), (9, false), (10, false), (11, false), (12, false), (13, false), (14, false), (15, false), (16, false), (17, false), (18, false), (19, false), (20, false), (21, false), (22, false), (23, false), (24, false), (25, false), (26, false), (27, false), (28, false), (29, false), (30, false), (31, false), (32, false)] (fun w' => By w' (· < W0.heap.size) C k ((l.take (i + k)).drop i) ∧ (w'.cell? ⟨w.heap.size, 0, none⟩ = some (.int .i64 (i : Nat)) ∧ w'.cell? ⟨w.heap.size, 1, none⟩ = some (.int .i64 (k : Nat)))) (by kernel_rfl) (by kernel_rfl) (fun c a d v w h => by cases d <;> exact h) ⟨hby, c0', c1'⟩ ?_
  repeat
    first
    | (first | refine wpPlan_read (v := ?_) (by rfl) (by rfl) (fun w' hS => ?_) (fun K hK => ?_) | refine wpPlan_readG (v := ?_) (by rfl) (by rfl) (fun w' hS => ?_) (fun K hK => ?_)
       rotate_left
       · obtain ⟨s0, s1, s2⟩ := hS
         have k0 := KO.out _ _ _ s0
         go_simp
         try with_reducible rfl
       go_simp
       refine hK _ ?_
       clear hK K)
    | (refine wpPlan_skip (by rfl) (by rfl) (fun K hK => ?_)
       go_simp
       refine hK _ ?_
       clear hK K)
  show wpList _ _ _ _ _ _
  have HB2 : Hid (Below W0.heap.size W0 w1.drew) := Lib.hid ⟨HB1.out.os, HB1.out.tape, HB1.out.output, HB1.out.size, HB1.out.block⟩
  obtain ⟨c0, c1⟩ := HCC.out w1.drew HB2.out
  clear HB1 c0' c1' hby
  generalize w1.drew = W2 at HB2 c0 c1 ⊢
  go_wp2_with fail
  refine (HP.out W2).mono ?_
  rintro e w3 ⟨rfl, hb3⟩
  have HB3 : Hid (Below w.heap.size w w3) := Lib.hid (HB0.out.trans ((HB2.out.trans (hb3.mono HB2.out.size)).mono HB0.out.size))
  have k0 := KA.out w3 _ (HA.out.below HB3.out)
  have k1 := KB.out w3 _ (HB.out.below HB3.out)
  clear hb3 c0 c1 HB2
  go_wp2_with fail
  have HBL := HB3
  refine (HLV.out _ HBL.out).mono ?_
  rintro e w9 ⟨rfl, hb9⟩
  have HB9 := Lib.hid (HBL.out.trans (hb9.mono HBL.out.size))
  clear hb9
  go_wp2_with fail
  go_ret
  exact ⟨rfl, HB9.out⟩
end Go.Proofs.YtojmckbpafkagaaGreatDoor
