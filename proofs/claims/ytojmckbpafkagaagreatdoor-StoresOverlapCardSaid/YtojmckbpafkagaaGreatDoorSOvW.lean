/- StoresOverlap: the law's walk. -/
import Derived.Test.YtojmckbpafkagaaGreatDoorSOvL
set_option linter.unusedVariables false
set_option linter.unusedSimpArgs false
namespace Go.Proofs.YtojmckbpafkagaaGreatDoor
open Go.RowKit Go.Lib
set_option maxRecDepth 100000
theorem tm20 (z : Int) : -20 < Int.tmod z 20 ∧ Int.tmod z 20 < 20 := by
  rcases (show z < 0 ∨ 0 ≤ z by omega) with h | h
  · have := Int.tmod_eq_emod_of_nonneg (a := -z) (b := 20) (by omega)
    rw [Int.neg_tmod] at this
    omega
  · have := Int.tmod_eq_emod_of_nonneg (a := z) (b := 20) h
    omega
theorem tm10 (z : Int) : -10 < Int.tmod z 10 ∧ Int.tmod z 10 < 10 := by
  rcases (show z < 0 ∨ 0 ≤ z by omega) with h | h
  · have := Int.tmod_eq_emod_of_nonneg (a := -z) (b := 10) (by omega)
    rw [Int.neg_tmod] at this
    omega
  · have := Int.tmod_eq_emod_of_nonneg (a := z) (b := 10) h
    omega
theorem em10 (z : Int) : -10 < z % 10 ∧ z % 10 < 10 := by omega
/-- Two places in new blocks. -/
theorem places2 (w : World) (a0 a1 b0 b1 : Int) : ((w.alloc (.cells #[.int .i64 a0, .int .i64 a1] 23)).alloc (.cells #[.int .i64 b0, .int .i64 b1] 23)).heap.size = w.heap.size + 2 ∧ (∀ n, n ≤ w.heap.size → Below n w ((w.alloc (.cells #[.int .i64 a0, .int .i64 a1] 23)).alloc (.cells #[.int .i64 b0, .int .i64 b1] 23))) ∧
    ∀ W', Below ((w.alloc (.cells #[.int .i64 a0, .int .i64 a1] 23)).alloc (.cells #[.int .i64 b0, .int .i64 b1] 23)).heap.size ((w.alloc (.cells #[.int .i64 a0, .int .i64 a1] 23)).alloc (.cells #[.int .i64 b0, .int .i64 b1] 23)) W' →
      (W'.cell? ⟨w.heap.size, 0, none⟩ = some (.int .i64 a0) ∧ W'.cell? ⟨w.heap.size, 1, none⟩ = some (.int .i64 a1)) ∧ (W'.cell? ⟨w.heap.size + 1, 0, none⟩ = some (.int .i64 b0) ∧ W'.cell? ⟨w.heap.size + 1, 1, none⟩ = some (.int .i64 b1)) := by
  refine ⟨by simp, fun n hn => ((Below.refl n w).alloc hn _).alloc (by simp; omega) _, fun W' hb => ?_⟩
  have k0 := hb.block w.heap.size (by simp; omega)
  have k1 := hb.block (w.heap.size + 1) (by simp)
  have e0 : ((w.alloc (.cells #[.int .i64 a0, .int .i64 a1] 23)).alloc (.cells #[.int .i64 b0, .int .i64 b1] 23)).heap[w.heap.size]? = some (.cells #[.int .i64 a0, .int .i64 a1] 23 (0, 0)) := by
    rw [Below.heap_alloc _ _ _ (by simp)]; exact heap_alloc_new w _
  have e1 : ((w.alloc (.cells #[.int .i64 a0, .int .i64 a1] 23)).alloc (.cells #[.int .i64 b0, .int .i64 b1] 23)).heap[w.heap.size + 1]? = some (.cells #[.int .i64 b0, .int .i64 b1] 23 (0, 0)) := by
    have := heap_alloc_new (w.alloc (.cells #[.int .i64 a0, .int .i64 a1] 23)) (.cells #[.int .i64 b0, .int .i64 b1] 23)
    simpa using this
  rw [e0] at k0
  rw [e1] at k1
  exact ⟨⟨cell_of_row W' _ 0 _ _ _ k0, cell_of_row W' _ 1 _ _ _ k0⟩, cell_of_row W' _ 0 _ _ _ k1, cell_of_row W' _ 1 _ _ _ k1⟩
set_option maxHeartbeats 4000000 in
theorem ovL_any (a0 a1 b0 b1 : Int) (ha0 : I64 a0) (ha1 : I64 a1) (hb0 : I64 b0) (hb1 : I64 b1) (w : World)
    (hlv : ∀ W, Below w.heap.size w W → Calls Tryz.prog 7 #[] W fun e w' => e = .returned (.bool true) ∧ Below W.heap.size W w') :
    Calls Tryz.prog 3 #[.agg #[.int .i64 a0, .int .i64 a1], .agg #[.int .i64 b0, .int .i64 b1]] w fun e w' => e = .returned (.bool true) ∧ Below w.heap.size w w' := by
  have HLV := Lib.hid hlv
  have HSY := Lib.hid (ov_symm ha0 ha1 hb0 hb1)
  have HIF := Lib.hid (ov_iff ha0 ha1 hb0 hb1)
  have HA := Lib.hid (And.intro (And.intro ha0 ha1) (And.intro hb0 hb1))
  have h1 : ∀ W, Calls Tryz.prog 6 #[.agg #[.int .i64 a0, .int .i64 a1], .agg #[.int .i64 b0, .int .i64 b1]] W fun e w' => e = .returned (.bool (ov a0 a1 b0 b1)) ∧ Below W.heap.size W w' := fun W => overlap_any _ _ _ _ W
  have h2 : ∀ W, Calls Tryz.prog 6 #[.agg #[.int .i64 b0, .int .i64 b1], .agg #[.int .i64 a0, .int .i64 a1]] W fun e w' => e = .returned (.bool (ov a0 a1 b0 b1)) ∧ Below W.heap.size W w' := fun W => by rw [← HSY.out]; exact overlap_any _ _ _ _ W
  have H1 := Lib.hid h1
  have H2 := Lib.hid h2
  clear hlv ha0 ha1 hb0 hb1 h1 h2 HSY
  generalize ov a0 a1 b0 b1 = g at H1 H2 HIF
  go_enter Tryz.func3, Tryz.ntmps3
  go_wp2_with fail
  obtain ⟨hws, hbb, hcc⟩ := places2 w a0 a1 b0 b1
  have HBB := Lib.hid (hbb w.heap.size (Nat.le_refl _))
  have HCC := Lib.hid hcc
  clear hws hbb hcc
  generalize ((w.alloc (.cells #[.int .i64 a0, .int .i64 a1] 23)).alloc (.cells #[.int .i64 b0, .int .i64 b1] 23)) = W0 at HBB HCC ⊢
  refine (H1.out W0).mono ?_
  rintro e w1 ⟨rfl, hb1⟩
  obtain ⟨⟨c0, c1⟩, c2, c3⟩ := HCC.out _ hb1
  have HB1 := Lib.hid hb1
  clear hb1
  go_wp2_with fail
  refine (H2.out w1).mono ?_
  rintro e w2 ⟨rfl, hb2⟩
  have hb2' := HB1.out.trans (hb2.mono HB1.out.size)
  clear c0 c1 c2 c3
  obtain ⟨⟨c0, c1⟩, c2, c3⟩ := HCC.out _ hb2'
  have c4 : ∀ o, (w2.alloc o).cell? ⟨w.heap.size + 1, 0, none⟩ = some (.int .i64 b0) ∧ (w2.alloc o).cell? ⟨w.heap.size + 1, 1, none⟩ = some (.int .i64 b1) := fun o => (HCC.out _ (hb2'.alloc hb2'.size o)).2
  have HB2 : Hid (Below w.heap.size w w2) := Lib.hid (HBB.out.trans (hb2'.mono HBB.out.size))
  clear hb2 hb2' HB1 HBB HCC H1 H2
  have q2 : 0 < a1 → 0 < b1 → a0 ≤ b0 → decide (IntKind.u64.wrap (IntKind.u64.wrap b0 - IntKind.u64.wrap a0) < IntKind.u64.wrap a1) = g := fun h1 h2 h3 => by
    have hd := ovD_iff HA.out.1.1 HA.out.1.2 HA.out.2.1 (b1 := b1) h3
    have he : ovD a0 a1 b0 b1 = g := by rw [Bool.eq_iff_iff, hd, HIF.out]; omega
    rw [← he]; simp [ovD, h1, h2]
  have q3 : 0 < a1 → 0 < b1 → ¬ a0 ≤ b0 → decide (IntKind.u64.wrap (IntKind.u64.wrap a0 - IntKind.u64.wrap b0) < IntKind.u64.wrap b1) = g := fun h1 h2 h3 => by
    have hd := ovD_iff HA.out.2.1 HA.out.2.2 HA.out.1.1 (b1 := a1) (show b0 ≤ a0 by omega)
    have he : ovD b0 b1 a0 a1 = g := by rw [Bool.eq_iff_iff, hd, HIF.out]; omega
    rw [← he]; simp [ovD, h1, h2]
  have q4 : ¬ (0 < a1 ∧ 0 < b1) → g = false := fun h => by
    cases g
    · rfl
    · exact absurd ⟨(HIF.out.1 rfl).1, (HIF.out.1 rfl).2.1⟩ h
  have HQ := Lib.hid (And.intro q2 (And.intro q3 q4))
  clear q2 q3 q4 HIF HA
  by_cases p1 : 0 < a1
  · have n1 : ¬ a1 < 1 := by omega
    by_cases p2 : 0 < b1
    · by_cases p3 : a0 ≤ b0
      · have h3 := HQ.out.1 p1 p2 p3
        cases g
        · go_wp2_with fail
          have t0 := tm20 a0
          have t1 := em10 a1
          have t2 := tm20 b0
          have t3 := em10 b1
          generalize Int.tmod a0 20 = x at t0 ⊢
          generalize a1 % 10 = l at t1 ⊢
          generalize Int.tmod b0 20 = y at t2 ⊢
          generalize b1 % 10 = m at t3 ⊢
          have HCM := Lib.hid (ov_cm t0 t1 t2 t3)
          have h5 : ∀ W, Calls Tryz.prog 6 #[.agg #[.int .i64 x, .int .i64 l], .agg #[.int .i64 y, .int .i64 m]] W fun e w' => e = .returned (.bool (cm x y m l.toNat)) ∧ Below W.heap.size W w' := fun W => by rw [← HCM.out]; exact overlap_any _ _ _ _ W
          have H5 := Lib.hid h5
          have r1 : wrap64 (x + l) = x + l := by unfold wrap64; omega
          have r2 : wrap64 (y + m) = y + m := by unfold wrap64; omega
          have HT := Lib.hid (And.intro (And.intro t0 t1) (And.intro t2 t3))
          clear t0 t1 t2 t3 c0 c1 c2 c3 c4 HQ p1 p2 p3 n1 h3 h5 HCM
          obtain ⟨hws, hbb, hcc⟩ := places2 w2 x l y m
          have HBB := Lib.hid (hbb w2.heap.size (Nat.le_refl _))
          have HCC := Lib.hid hcc
          obtain ⟨⟨d0, d1⟩, d2, d3⟩ := hcc _ (Below.refl _ _)
          clear hws hbb hcc
          generalize ((w2.alloc (.cells #[.int .i64 x, .int .i64 l] 23)).alloc (.cells #[.int .i64 y, .int .i64 m] 23)) = W3 at HBB HCC d0 d1 d2 d3 ⊢
          go_loopw [9, 10] (fun c i W => ∃ k : Nat, k ≤ l.toNat ∧ i = .int .i64 (x + k) ∧ c = .bool (cm x y m k) ∧ W = W3) (fun _ i _ => (x + l - intOf i).toNat)
          case atStart => exact ⟨0, Nat.zero_le _, by simp, rfl, rfl⟩
          case round =>
            obtain ⟨k, hk, rfl, rfl, rfl⟩ := hrel
            by_cases hlt : k < l.toNat
            · have e0 : x + (k : Int) < x + l := by omega
              have r3 : wrap64 (x + (k : Int) + 1) = x + (k : Int) + 1 := by have := HT.out; unfold wrap64; omega
              have e1 : x + (k : Int) + 1 = x + ((k + 1 : Nat) : Int) := by omega
              have E1 := Lib.hid e1
              have E0 := Lib.hid e0
              clear e1
              cases hc : cm x y m k
              · by_cases f1 : y ≤ x + (k : Int)
                · by_cases f2 : x + (k : Int) < y + m
                  · go_wp2_with fail
                    go_roundw
                    case rel => exact ⟨k + 1, hlt, by rw [r3, E1.out], by simp [cm, hc, f1, f2], by first | rfl | trivial⟩
                    case measure => first | (simp [intOf]; omega) | (simp [intOf, r3]; omega)
                  · go_wp2_with fail
                    go_roundw
                    case rel => exact ⟨k + 1, hlt, by rw [r3, E1.out], by simp [cm, hc, f1, f2], by first | rfl | trivial⟩
                    case measure => first | (simp [intOf]; omega) | (simp [intOf, r3]; omega)
                · go_wp2_with fail
                  go_roundw
                  case rel => exact ⟨k + 1, hlt, by rw [r3, E1.out], by simp [cm, hc, f1], by first | rfl | trivial⟩
                  case measure => first | (simp [intOf]; omega) | (simp [intOf, r3]; omega)
              · go_wp2_with fail
                go_roundw
                case rel => exact ⟨k + 1, hlt, by rw [r3, E1.out], by simp [cm, hc], by first | rfl | trivial⟩
                case measure => first | (simp [intOf]; omega) | (simp [intOf, r3]; omega)
            · obtain rfl : k = l.toNat := by omega
              have e0 : ¬ x + (l.toNat : Int) < x + l := by omega
              go_wp2_with fail
              refine (H5.out _).mono ?_
              rintro e w4 ⟨rfl, hb4⟩
              have hbb : Below w.heap.size w w4 := (HB2.out.trans (HBB.out.mono HB2.out.size)).trans (hb4.mono (Nat.le_trans HB2.out.size HBB.out.size))
              have HBC := Lib.hid hbb
              clear hbb hb4 d0 d1 d2 d3
              go_wp2_with fail
              refine (HLV.out _ HBC.out).mono ?_
              rintro e w5 ⟨rfl, hb5⟩
              have HB5 := Lib.hid (HBC.out.trans (hb5.mono HBC.out.size))
              clear hb5
              go_wp2_with fail
              go_ret
              exact ⟨rfl, HB5.out⟩
        · go_wp2_with fail
          have t0 := tm20 a0
          have t1 := em10 a1
          have t2 := tm20 b0
          have t3 := em10 b1
          generalize Int.tmod a0 20 = x at t0 ⊢
          generalize a1 % 10 = l at t1 ⊢
          generalize Int.tmod b0 20 = y at t2 ⊢
          generalize b1 % 10 = m at t3 ⊢
          have HCM := Lib.hid (ov_cm t0 t1 t2 t3)
          have h5 : ∀ W, Calls Tryz.prog 6 #[.agg #[.int .i64 x, .int .i64 l], .agg #[.int .i64 y, .int .i64 m]] W fun e w' => e = .returned (.bool (cm x y m l.toNat)) ∧ Below W.heap.size W w' := fun W => by rw [← HCM.out]; exact overlap_any _ _ _ _ W
          have H5 := Lib.hid h5
          have r1 : wrap64 (x + l) = x + l := by unfold wrap64; omega
          have r2 : wrap64 (y + m) = y + m := by unfold wrap64; omega
          have HT := Lib.hid (And.intro (And.intro t0 t1) (And.intro t2 t3))
          clear t0 t1 t2 t3 c0 c1 c2 c3 c4 HQ p1 p2 p3 n1 h3 h5 HCM
          obtain ⟨hws, hbb, hcc⟩ := places2 w2 x l y m
          have HBB := Lib.hid (hbb w2.heap.size (Nat.le_refl _))
          have HCC := Lib.hid hcc
          obtain ⟨⟨d0, d1⟩, d2, d3⟩ := hcc _ (Below.refl _ _)
          clear hws hbb hcc
          generalize ((w2.alloc (.cells #[.int .i64 x, .int .i64 l] 23)).alloc (.cells #[.int .i64 y, .int .i64 m] 23)) = W3 at HBB HCC d0 d1 d2 d3 ⊢
          go_loopw [9, 10] (fun c i W => ∃ k : Nat, k ≤ l.toNat ∧ i = .int .i64 (x + k) ∧ c = .bool (cm x y m k) ∧ W = W3) (fun _ i _ => (x + l - intOf i).toNat)
          case atStart => exact ⟨0, Nat.zero_le _, by simp, rfl, rfl⟩
          case round =>
            obtain ⟨k, hk, rfl, rfl, rfl⟩ := hrel
            by_cases hlt : k < l.toNat
            · have e0 : x + (k : Int) < x + l := by omega
              have r3 : wrap64 (x + (k : Int) + 1) = x + (k : Int) + 1 := by have := HT.out; unfold wrap64; omega
              have e1 : x + (k : Int) + 1 = x + ((k + 1 : Nat) : Int) := by omega
              have E1 := Lib.hid e1
              have E0 := Lib.hid e0
              clear e1
              cases hc : cm x y m k
              · by_cases f1 : y ≤ x + (k : Int)
                · by_cases f2 : x + (k : Int) < y + m
                  · go_wp2_with fail
                    go_roundw
                    case rel => exact ⟨k + 1, hlt, by rw [r3, E1.out], by simp [cm, hc, f1, f2], by first | rfl | trivial⟩
                    case measure => first | (simp [intOf]; omega) | (simp [intOf, r3]; omega)
                  · go_wp2_with fail
                    go_roundw
                    case rel => exact ⟨k + 1, hlt, by rw [r3, E1.out], by simp [cm, hc, f1, f2], by first | rfl | trivial⟩
                    case measure => first | (simp [intOf]; omega) | (simp [intOf, r3]; omega)
                · go_wp2_with fail
                  go_roundw
                  case rel => exact ⟨k + 1, hlt, by rw [r3, E1.out], by simp [cm, hc, f1], by first | rfl | trivial⟩
                  case measure => first | (simp [intOf]; omega) | (simp [intOf, r3]; omega)
              · go_wp2_with fail
                go_roundw
                case rel => exact ⟨k + 1, hlt, by rw [r3, E1.out], by simp [cm, hc], by first | rfl | trivial⟩
                case measure => first | (simp [intOf]; omega) | (simp [intOf, r3]; omega)
            · obtain rfl : k = l.toNat := by omega
              have e0 : ¬ x + (l.toNat : Int) < x + l := by omega
              go_wp2_with fail
              refine (H5.out _).mono ?_
              rintro e w4 ⟨rfl, hb4⟩
              have hbb : Below w.heap.size w w4 := (HB2.out.trans (HBB.out.mono HB2.out.size)).trans (hb4.mono (Nat.le_trans HB2.out.size HBB.out.size))
              have HBC := Lib.hid hbb
              clear hbb hb4 d0 d1 d2 d3
              go_wp2_with fail
              refine (HLV.out _ HBC.out).mono ?_
              rintro e w5 ⟨rfl, hb5⟩
              have HB5 := Lib.hid (HBC.out.trans (hb5.mono HBC.out.size))
              clear hb5
              go_wp2_with fail
              go_ret
              exact ⟨rfl, HB5.out⟩
      · have h3 := HQ.out.2.1 p1 p2 p3
        cases g
        · go_wp2_with fail
          have t0 := tm20 a0
          have t1 := em10 a1
          have t2 := tm20 b0
          have t3 := em10 b1
          generalize Int.tmod a0 20 = x at t0 ⊢
          generalize a1 % 10 = l at t1 ⊢
          generalize Int.tmod b0 20 = y at t2 ⊢
          generalize b1 % 10 = m at t3 ⊢
          have HCM := Lib.hid (ov_cm t0 t1 t2 t3)
          have h5 : ∀ W, Calls Tryz.prog 6 #[.agg #[.int .i64 x, .int .i64 l], .agg #[.int .i64 y, .int .i64 m]] W fun e w' => e = .returned (.bool (cm x y m l.toNat)) ∧ Below W.heap.size W w' := fun W => by rw [← HCM.out]; exact overlap_any _ _ _ _ W
          have H5 := Lib.hid h5
          have r1 : wrap64 (x + l) = x + l := by unfold wrap64; omega
          have r2 : wrap64 (y + m) = y + m := by unfold wrap64; omega
          have HT := Lib.hid (And.intro (And.intro t0 t1) (And.intro t2 t3))
          clear t0 t1 t2 t3 c0 c1 c2 c3 c4 HQ p1 p2 p3 n1 h3 h5 HCM
          obtain ⟨hws, hbb, hcc⟩ := places2 w2 x l y m
          have HBB := Lib.hid (hbb w2.heap.size (Nat.le_refl _))
          have HCC := Lib.hid hcc
          obtain ⟨⟨d0, d1⟩, d2, d3⟩ := hcc _ (Below.refl _ _)
          clear hws hbb hcc
          generalize ((w2.alloc (.cells #[.int .i64 x, .int .i64 l] 23)).alloc (.cells #[.int .i64 y, .int .i64 m] 23)) = W3 at HBB HCC d0 d1 d2 d3 ⊢
          go_loopw [9, 10] (fun c i W => ∃ k : Nat, k ≤ l.toNat ∧ i = .int .i64 (x + k) ∧ c = .bool (cm x y m k) ∧ W = W3) (fun _ i _ => (x + l - intOf i).toNat)
          case atStart => exact ⟨0, Nat.zero_le _, by simp, rfl, rfl⟩
          case round =>
            obtain ⟨k, hk, rfl, rfl, rfl⟩ := hrel
            by_cases hlt : k < l.toNat
            · have e0 : x + (k : Int) < x + l := by omega
              have r3 : wrap64 (x + (k : Int) + 1) = x + (k : Int) + 1 := by have := HT.out; unfold wrap64; omega
              have e1 : x + (k : Int) + 1 = x + ((k + 1 : Nat) : Int) := by omega
              have E1 := Lib.hid e1
              have E0 := Lib.hid e0
              clear e1
              cases hc : cm x y m k
              · by_cases f1 : y ≤ x + (k : Int)
                · by_cases f2 : x + (k : Int) < y + m
                  · go_wp2_with fail
                    go_roundw
                    case rel => exact ⟨k + 1, hlt, by rw [r3, E1.out], by simp [cm, hc, f1, f2], by first | rfl | trivial⟩
                    case measure => first | (simp [intOf]; omega) | (simp [intOf, r3]; omega)
                  · go_wp2_with fail
                    go_roundw
                    case rel => exact ⟨k + 1, hlt, by rw [r3, E1.out], by simp [cm, hc, f1, f2], by first | rfl | trivial⟩
                    case measure => first | (simp [intOf]; omega) | (simp [intOf, r3]; omega)
                · go_wp2_with fail
                  go_roundw
                  case rel => exact ⟨k + 1, hlt, by rw [r3, E1.out], by simp [cm, hc, f1], by first | rfl | trivial⟩
                  case measure => first | (simp [intOf]; omega) | (simp [intOf, r3]; omega)
              · go_wp2_with fail
                go_roundw
                case rel => exact ⟨k + 1, hlt, by rw [r3, E1.out], by simp [cm, hc], by first | rfl | trivial⟩
                case measure => first | (simp [intOf]; omega) | (simp [intOf, r3]; omega)
            · obtain rfl : k = l.toNat := by omega
              have e0 : ¬ x + (l.toNat : Int) < x + l := by omega
              go_wp2_with fail
              refine (H5.out _).mono ?_
              rintro e w4 ⟨rfl, hb4⟩
              have hbb : Below w.heap.size w w4 := (HB2.out.trans (HBB.out.mono HB2.out.size)).trans (hb4.mono (Nat.le_trans HB2.out.size HBB.out.size))
              have HBC := Lib.hid hbb
              clear hbb hb4 d0 d1 d2 d3
              go_wp2_with fail
              refine (HLV.out _ HBC.out).mono ?_
              rintro e w5 ⟨rfl, hb5⟩
              have HB5 := Lib.hid (HBC.out.trans (hb5.mono HBC.out.size))
              clear hb5
              go_wp2_with fail
              go_ret
              exact ⟨rfl, HB5.out⟩
        · go_wp2_with fail
          have t0 := tm20 a0
          have t1 := em10 a1
          have t2 := tm20 b0
          have t3 := em10 b1
          generalize Int.tmod a0 20 = x at t0 ⊢
          generalize a1 % 10 = l at t1 ⊢
          generalize Int.tmod b0 20 = y at t2 ⊢
          generalize b1 % 10 = m at t3 ⊢
          have HCM := Lib.hid (ov_cm t0 t1 t2 t3)
          have h5 : ∀ W, Calls Tryz.prog 6 #[.agg #[.int .i64 x, .int .i64 l], .agg #[.int .i64 y, .int .i64 m]] W fun e w' => e = .returned (.bool (cm x y m l.toNat)) ∧ Below W.heap.size W w' := fun W => by rw [← HCM.out]; exact overlap_any _ _ _ _ W
          have H5 := Lib.hid h5
          have r1 : wrap64 (x + l) = x + l := by unfold wrap64; omega
          have r2 : wrap64 (y + m) = y + m := by unfold wrap64; omega
          have HT := Lib.hid (And.intro (And.intro t0 t1) (And.intro t2 t3))
          clear t0 t1 t2 t3 c0 c1 c2 c3 c4 HQ p1 p2 p3 n1 h3 h5 HCM
          obtain ⟨hws, hbb, hcc⟩ := places2 w2 x l y m
          have HBB := Lib.hid (hbb w2.heap.size (Nat.le_refl _))
          have HCC := Lib.hid hcc
          obtain ⟨⟨d0, d1⟩, d2, d3⟩ := hcc _ (Below.refl _ _)
          clear hws hbb hcc
          generalize ((w2.alloc (.cells #[.int .i64 x, .int .i64 l] 23)).alloc (.cells #[.int .i64 y, .int .i64 m] 23)) = W3 at HBB HCC d0 d1 d2 d3 ⊢
          go_loopw [9, 10] (fun c i W => ∃ k : Nat, k ≤ l.toNat ∧ i = .int .i64 (x + k) ∧ c = .bool (cm x y m k) ∧ W = W3) (fun _ i _ => (x + l - intOf i).toNat)
          case atStart => exact ⟨0, Nat.zero_le _, by simp, rfl, rfl⟩
          case round =>
            obtain ⟨k, hk, rfl, rfl, rfl⟩ := hrel
            by_cases hlt : k < l.toNat
            · have e0 : x + (k : Int) < x + l := by omega
              have r3 : wrap64 (x + (k : Int) + 1) = x + (k : Int) + 1 := by have := HT.out; unfold wrap64; omega
              have e1 : x + (k : Int) + 1 = x + ((k + 1 : Nat) : Int) := by omega
              have E1 := Lib.hid e1
              have E0 := Lib.hid e0
              clear e1
              cases hc : cm x y m k
              · by_cases f1 : y ≤ x + (k : Int)
                · by_cases f2 : x + (k : Int) < y + m
                  · go_wp2_with fail
                    go_roundw
                    case rel => exact ⟨k + 1, hlt, by rw [r3, E1.out], by simp [cm, hc, f1, f2], by first | rfl | trivial⟩
                    case measure => first | (simp [intOf]; omega) | (simp [intOf, r3]; omega)
                  · go_wp2_with fail
                    go_roundw
                    case rel => exact ⟨k + 1, hlt, by rw [r3, E1.out], by simp [cm, hc, f1, f2], by first | rfl | trivial⟩
                    case measure => first | (simp [intOf]; omega) | (simp [intOf, r3]; omega)
                · go_wp2_with fail
                  go_roundw
                  case rel => exact ⟨k + 1, hlt, by rw [r3, E1.out], by simp [cm, hc, f1], by first | rfl | trivial⟩
                  case measure => first | (simp [intOf]; omega) | (simp [intOf, r3]; omega)
              · go_wp2_with fail
                go_roundw
                case rel => exact ⟨k + 1, hlt, by rw [r3, E1.out], by simp [cm, hc], by first | rfl | trivial⟩
                case measure => first | (simp [intOf]; omega) | (simp [intOf, r3]; omega)
            · obtain rfl : k = l.toNat := by omega
              have e0 : ¬ x + (l.toNat : Int) < x + l := by omega
              go_wp2_with fail
              refine (H5.out _).mono ?_
              rintro e w4 ⟨rfl, hb4⟩
              have hbb : Below w.heap.size w w4 := (HB2.out.trans (HBB.out.mono HB2.out.size)).trans (hb4.mono (Nat.le_trans HB2.out.size HBB.out.size))
              have HBC := Lib.hid hbb
              clear hbb hb4 d0 d1 d2 d3
              go_wp2_with fail
              refine (HLV.out _ HBC.out).mono ?_
              rintro e w5 ⟨rfl, hb5⟩
              have HB5 := Lib.hid (HBC.out.trans (hb5.mono HBC.out.size))
              clear hb5
              go_wp2_with fail
              go_ret
              exact ⟨rfl, HB5.out⟩
    · obtain rfl := HQ.out.2.2 (fun h => p2 h.2)
      by_cases p3 : a0 ≤ b0
      · go_wp2_with fail
        have t0 := tm20 a0
        have t1 := em10 a1
        have t2 := tm20 b0
        have t3 := tm10 b1
        generalize Int.tmod a0 20 = x at t0 ⊢
        generalize a1 % 10 = l at t1 ⊢
        generalize Int.tmod b0 20 = y at t2 ⊢
        generalize Int.tmod b1 10 = m at t3 ⊢
        have HCM := Lib.hid (ov_cm t0 t1 t2 t3)
        have h5 : ∀ W, Calls Tryz.prog 6 #[.agg #[.int .i64 x, .int .i64 l], .agg #[.int .i64 y, .int .i64 m]] W fun e w' => e = .returned (.bool (cm x y m l.toNat)) ∧ Below W.heap.size W w' := fun W => by rw [← HCM.out]; exact overlap_any _ _ _ _ W
        have H5 := Lib.hid h5
        have r1 : wrap64 (x + l) = x + l := by unfold wrap64; omega
        have r2 : wrap64 (y + m) = y + m := by unfold wrap64; omega
        have HT := Lib.hid (And.intro (And.intro t0 t1) (And.intro t2 t3))
        clear t0 t1 t2 t3 c0 c1 c2 c3 c4 HQ p1 p2 p3 n1 h5 HCM
        obtain ⟨hws, hbb, hcc⟩ := places2 w2 x l y m
        have HBB := Lib.hid (hbb w2.heap.size (Nat.le_refl _))
        have HCC := Lib.hid hcc
        obtain ⟨⟨d0, d1⟩, d2, d3⟩ := hcc _ (Below.refl _ _)
        clear hws hbb hcc
        generalize ((w2.alloc (.cells #[.int .i64 x, .int .i64 l] 23)).alloc (.cells #[.int .i64 y, .int .i64 m] 23)) = W3 at HBB HCC d0 d1 d2 d3 ⊢
        go_loopw [9, 10] (fun c i W => ∃ k : Nat, k ≤ l.toNat ∧ i = .int .i64 (x + k) ∧ c = .bool (cm x y m k) ∧ W = W3) (fun _ i _ => (x + l - intOf i).toNat)
        case atStart => exact ⟨0, Nat.zero_le _, by simp, rfl, rfl⟩
        case round =>
          obtain ⟨k, hk, rfl, rfl, rfl⟩ := hrel
          by_cases hlt : k < l.toNat
          · have e0 : x + (k : Int) < x + l := by omega
            have r3 : wrap64 (x + (k : Int) + 1) = x + (k : Int) + 1 := by have := HT.out; unfold wrap64; omega
            have e1 : x + (k : Int) + 1 = x + ((k + 1 : Nat) : Int) := by omega
            have E1 := Lib.hid e1
            have E0 := Lib.hid e0
            clear e1
            cases hc : cm x y m k
            · by_cases f1 : y ≤ x + (k : Int)
              · by_cases f2 : x + (k : Int) < y + m
                · go_wp2_with fail
                  go_roundw
                  case rel => exact ⟨k + 1, hlt, by rw [r3, E1.out], by simp [cm, hc, f1, f2], by first | rfl | trivial⟩
                  case measure => first | (simp [intOf]; omega) | (simp [intOf, r3]; omega)
                · go_wp2_with fail
                  go_roundw
                  case rel => exact ⟨k + 1, hlt, by rw [r3, E1.out], by simp [cm, hc, f1, f2], by first | rfl | trivial⟩
                  case measure => first | (simp [intOf]; omega) | (simp [intOf, r3]; omega)
              · go_wp2_with fail
                go_roundw
                case rel => exact ⟨k + 1, hlt, by rw [r3, E1.out], by simp [cm, hc, f1], by first | rfl | trivial⟩
                case measure => first | (simp [intOf]; omega) | (simp [intOf, r3]; omega)
            · go_wp2_with fail
              go_roundw
              case rel => exact ⟨k + 1, hlt, by rw [r3, E1.out], by simp [cm, hc], by first | rfl | trivial⟩
              case measure => first | (simp [intOf]; omega) | (simp [intOf, r3]; omega)
          · obtain rfl : k = l.toNat := by omega
            have e0 : ¬ x + (l.toNat : Int) < x + l := by omega
            go_wp2_with fail
            refine (H5.out _).mono ?_
            rintro e w4 ⟨rfl, hb4⟩
            have hbb : Below w.heap.size w w4 := (HB2.out.trans (HBB.out.mono HB2.out.size)).trans (hb4.mono (Nat.le_trans HB2.out.size HBB.out.size))
            have HBC := Lib.hid hbb
            clear hbb hb4 d0 d1 d2 d3
            go_wp2_with fail
            refine (HLV.out _ HBC.out).mono ?_
            rintro e w5 ⟨rfl, hb5⟩
            have HB5 := Lib.hid (HBC.out.trans (hb5.mono HBC.out.size))
            clear hb5
            go_wp2_with fail
            go_ret
            exact ⟨rfl, HB5.out⟩
      · go_wp2_with fail
        have t0 := tm20 a0
        have t1 := em10 a1
        have t2 := tm20 b0
        have t3 := tm10 b1
        generalize Int.tmod a0 20 = x at t0 ⊢
        generalize a1 % 10 = l at t1 ⊢
        generalize Int.tmod b0 20 = y at t2 ⊢
        generalize Int.tmod b1 10 = m at t3 ⊢
        have HCM := Lib.hid (ov_cm t0 t1 t2 t3)
        have h5 : ∀ W, Calls Tryz.prog 6 #[.agg #[.int .i64 x, .int .i64 l], .agg #[.int .i64 y, .int .i64 m]] W fun e w' => e = .returned (.bool (cm x y m l.toNat)) ∧ Below W.heap.size W w' := fun W => by rw [← HCM.out]; exact overlap_any _ _ _ _ W
        have H5 := Lib.hid h5
        have r1 : wrap64 (x + l) = x + l := by unfold wrap64; omega
        have r2 : wrap64 (y + m) = y + m := by unfold wrap64; omega
        have HT := Lib.hid (And.intro (And.intro t0 t1) (And.intro t2 t3))
        clear t0 t1 t2 t3 c0 c1 c2 c3 c4 HQ p1 p2 p3 n1 h5 HCM
        obtain ⟨hws, hbb, hcc⟩ := places2 w2 x l y m
        have HBB := Lib.hid (hbb w2.heap.size (Nat.le_refl _))
        have HCC := Lib.hid hcc
        obtain ⟨⟨d0, d1⟩, d2, d3⟩ := hcc _ (Below.refl _ _)
        clear hws hbb hcc
        generalize ((w2.alloc (.cells #[.int .i64 x, .int .i64 l] 23)).alloc (.cells #[.int .i64 y, .int .i64 m] 23)) = W3 at HBB HCC d0 d1 d2 d3 ⊢
        go_loopw [9, 10] (fun c i W => ∃ k : Nat, k ≤ l.toNat ∧ i = .int .i64 (x + k) ∧ c = .bool (cm x y m k) ∧ W = W3) (fun _ i _ => (x + l - intOf i).toNat)
        case atStart => exact ⟨0, Nat.zero_le _, by simp, rfl, rfl⟩
        case round =>
          obtain ⟨k, hk, rfl, rfl, rfl⟩ := hrel
          by_cases hlt : k < l.toNat
          · have e0 : x + (k : Int) < x + l := by omega
            have r3 : wrap64 (x + (k : Int) + 1) = x + (k : Int) + 1 := by have := HT.out; unfold wrap64; omega
            have e1 : x + (k : Int) + 1 = x + ((k + 1 : Nat) : Int) := by omega
            have E1 := Lib.hid e1
            have E0 := Lib.hid e0
            clear e1
            cases hc : cm x y m k
            · by_cases f1 : y ≤ x + (k : Int)
              · by_cases f2 : x + (k : Int) < y + m
                · go_wp2_with fail
                  go_roundw
                  case rel => exact ⟨k + 1, hlt, by rw [r3, E1.out], by simp [cm, hc, f1, f2], by first | rfl | trivial⟩
                  case measure => first | (simp [intOf]; omega) | (simp [intOf, r3]; omega)
                · go_wp2_with fail
                  go_roundw
                  case rel => exact ⟨k + 1, hlt, by rw [r3, E1.out], by simp [cm, hc, f1, f2], by first | rfl | trivial⟩
                  case measure => first | (simp [intOf]; omega) | (simp [intOf, r3]; omega)
              · go_wp2_with fail
                go_roundw
                case rel => exact ⟨k + 1, hlt, by rw [r3, E1.out], by simp [cm, hc, f1], by first | rfl | trivial⟩
                case measure => first | (simp [intOf]; omega) | (simp [intOf, r3]; omega)
            · go_wp2_with fail
              go_roundw
              case rel => exact ⟨k + 1, hlt, by rw [r3, E1.out], by simp [cm, hc], by first | rfl | trivial⟩
              case measure => first | (simp [intOf]; omega) | (simp [intOf, r3]; omega)
          · obtain rfl : k = l.toNat := by omega
            have e0 : ¬ x + (l.toNat : Int) < x + l := by omega
            go_wp2_with fail
            refine (H5.out _).mono ?_
            rintro e w4 ⟨rfl, hb4⟩
            have hbb : Below w.heap.size w w4 := (HB2.out.trans (HBB.out.mono HB2.out.size)).trans (hb4.mono (Nat.le_trans HB2.out.size HBB.out.size))
            have HBC := Lib.hid hbb
            clear hbb hb4 d0 d1 d2 d3
            go_wp2_with fail
            refine (HLV.out _ HBC.out).mono ?_
            rintro e w5 ⟨rfl, hb5⟩
            have HB5 := Lib.hid (HBC.out.trans (hb5.mono HBC.out.size))
            clear hb5
            go_wp2_with fail
            go_ret
            exact ⟨rfl, HB5.out⟩
  · obtain rfl := HQ.out.2.2 (fun h => p1 h.1)
    have n1 : a1 < 1 := by omega
    by_cases p3 : a0 ≤ b0
    · go_wp2_with fail
      have t0 := tm20 a0
      have t1 := tm10 a1
      have t2 := tm20 b0
      have t3 := tm10 b1
      generalize Int.tmod a0 20 = x at t0 ⊢
      generalize Int.tmod a1 10 = l at t1 ⊢
      generalize Int.tmod b0 20 = y at t2 ⊢
      generalize Int.tmod b1 10 = m at t3 ⊢
      have HCM := Lib.hid (ov_cm t0 t1 t2 t3)
      have h5 : ∀ W, Calls Tryz.prog 6 #[.agg #[.int .i64 x, .int .i64 l], .agg #[.int .i64 y, .int .i64 m]] W fun e w' => e = .returned (.bool (cm x y m l.toNat)) ∧ Below W.heap.size W w' := fun W => by rw [← HCM.out]; exact overlap_any _ _ _ _ W
      have H5 := Lib.hid h5
      have r1 : wrap64 (x + l) = x + l := by unfold wrap64; omega
      have r2 : wrap64 (y + m) = y + m := by unfold wrap64; omega
      have HT := Lib.hid (And.intro (And.intro t0 t1) (And.intro t2 t3))
      clear t0 t1 t2 t3 c0 c1 c2 c3 c4 HQ p1 p3 n1 h5 HCM
      obtain ⟨hws, hbb, hcc⟩ := places2 w2 x l y m
      have HBB := Lib.hid (hbb w2.heap.size (Nat.le_refl _))
      have HCC := Lib.hid hcc
      obtain ⟨⟨d0, d1⟩, d2, d3⟩ := hcc _ (Below.refl _ _)
      clear hws hbb hcc
      generalize ((w2.alloc (.cells #[.int .i64 x, .int .i64 l] 23)).alloc (.cells #[.int .i64 y, .int .i64 m] 23)) = W3 at HBB HCC d0 d1 d2 d3 ⊢
      go_loopw [9, 10] (fun c i W => ∃ k : Nat, k ≤ l.toNat ∧ i = .int .i64 (x + k) ∧ c = .bool (cm x y m k) ∧ W = W3) (fun _ i _ => (x + l - intOf i).toNat)
      case atStart => exact ⟨0, Nat.zero_le _, by simp, rfl, rfl⟩
      case round =>
        obtain ⟨k, hk, rfl, rfl, rfl⟩ := hrel
        by_cases hlt : k < l.toNat
        · have e0 : x + (k : Int) < x + l := by omega
          have r3 : wrap64 (x + (k : Int) + 1) = x + (k : Int) + 1 := by have := HT.out; unfold wrap64; omega
          have e1 : x + (k : Int) + 1 = x + ((k + 1 : Nat) : Int) := by omega
          have E1 := Lib.hid e1
          have E0 := Lib.hid e0
          clear e1
          cases hc : cm x y m k
          · by_cases f1 : y ≤ x + (k : Int)
            · by_cases f2 : x + (k : Int) < y + m
              · go_wp2_with fail
                go_roundw
                case rel => exact ⟨k + 1, hlt, by rw [r3, E1.out], by simp [cm, hc, f1, f2], by first | rfl | trivial⟩
                case measure => first | (simp [intOf]; omega) | (simp [intOf, r3]; omega)
              · go_wp2_with fail
                go_roundw
                case rel => exact ⟨k + 1, hlt, by rw [r3, E1.out], by simp [cm, hc, f1, f2], by first | rfl | trivial⟩
                case measure => first | (simp [intOf]; omega) | (simp [intOf, r3]; omega)
            · go_wp2_with fail
              go_roundw
              case rel => exact ⟨k + 1, hlt, by rw [r3, E1.out], by simp [cm, hc, f1], by first | rfl | trivial⟩
              case measure => first | (simp [intOf]; omega) | (simp [intOf, r3]; omega)
          · go_wp2_with fail
            go_roundw
            case rel => exact ⟨k + 1, hlt, by rw [r3, E1.out], by simp [cm, hc], by first | rfl | trivial⟩
            case measure => first | (simp [intOf]; omega) | (simp [intOf, r3]; omega)
        · obtain rfl : k = l.toNat := by omega
          have e0 : ¬ x + (l.toNat : Int) < x + l := by omega
          go_wp2_with fail
          refine (H5.out _).mono ?_
          rintro e w4 ⟨rfl, hb4⟩
          have hbb : Below w.heap.size w w4 := (HB2.out.trans (HBB.out.mono HB2.out.size)).trans (hb4.mono (Nat.le_trans HB2.out.size HBB.out.size))
          have HBC := Lib.hid hbb
          clear hbb hb4 d0 d1 d2 d3
          go_wp2_with fail
          refine (HLV.out _ HBC.out).mono ?_
          rintro e w5 ⟨rfl, hb5⟩
          have HB5 := Lib.hid (HBC.out.trans (hb5.mono HBC.out.size))
          clear hb5
          go_wp2_with fail
          go_ret
          exact ⟨rfl, HB5.out⟩
    · go_wp2_with fail
      have t0 := tm20 a0
      have t1 := tm10 a1
      have t2 := tm20 b0
      have t3 := tm10 b1
      generalize Int.tmod a0 20 = x at t0 ⊢
      generalize Int.tmod a1 10 = l at t1 ⊢
      generalize Int.tmod b0 20 = y at t2 ⊢
      generalize Int.tmod b1 10 = m at t3 ⊢
      have HCM := Lib.hid (ov_cm t0 t1 t2 t3)
      have h5 : ∀ W, Calls Tryz.prog 6 #[.agg #[.int .i64 x, .int .i64 l], .agg #[.int .i64 y, .int .i64 m]] W fun e w' => e = .returned (.bool (cm x y m l.toNat)) ∧ Below W.heap.size W w' := fun W => by rw [← HCM.out]; exact overlap_any _ _ _ _ W
      have H5 := Lib.hid h5
      have r1 : wrap64 (x + l) = x + l := by unfold wrap64; omega
      have r2 : wrap64 (y + m) = y + m := by unfold wrap64; omega
      have HT := Lib.hid (And.intro (And.intro t0 t1) (And.intro t2 t3))
      clear t0 t1 t2 t3 c0 c1 c2 c3 c4 HQ p1 p3 n1 h5 HCM
      obtain ⟨hws, hbb, hcc⟩ := places2 w2 x l y m
      have HBB := Lib.hid (hbb w2.heap.size (Nat.le_refl _))
      have HCC := Lib.hid hcc
      obtain ⟨⟨d0, d1⟩, d2, d3⟩ := hcc _ (Below.refl _ _)
      clear hws hbb hcc
      generalize ((w2.alloc (.cells #[.int .i64 x, .int .i64 l] 23)).alloc (.cells #[.int .i64 y, .int .i64 m] 23)) = W3 at HBB HCC d0 d1 d2 d3 ⊢
      go_loopw [9, 10] (fun c i W => ∃ k : Nat, k ≤ l.toNat ∧ i = .int .i64 (x + k) ∧ c = .bool (cm x y m k) ∧ W = W3) (fun _ i _ => (x + l - intOf i).toNat)
      case atStart => exact ⟨0, Nat.zero_le _, by simp, rfl, rfl⟩
      case round =>
        obtain ⟨k, hk, rfl, rfl, rfl⟩ := hrel
        by_cases hlt : k < l.toNat
        · have e0 : x + (k : Int) < x + l := by omega
          have r3 : wrap64 (x + (k : Int) + 1) = x + (k : Int) + 1 := by have := HT.out; unfold wrap64; omega
          have e1 : x + (k : Int) + 1 = x + ((k + 1 : Nat) : Int) := by omega
          have E1 := Lib.hid e1
          have E0 := Lib.hid e0
          clear e1
          cases hc : cm x y m k
          · by_cases f1 : y ≤ x + (k : Int)
            · by_cases f2 : x + (k : Int) < y + m
              · go_wp2_with fail
                go_roundw
                case rel => exact ⟨k + 1, hlt, by rw [r3, E1.out], by simp [cm, hc, f1, f2], by first | rfl | trivial⟩
                case measure => first | (simp [intOf]; omega) | (simp [intOf, r3]; omega)
              · go_wp2_with fail
                go_roundw
                case rel => exact ⟨k + 1, hlt, by rw [r3, E1.out], by simp [cm, hc, f1, f2], by first | rfl | trivial⟩
                case measure => first | (simp [intOf]; omega) | (simp [intOf, r3]; omega)
            · go_wp2_with fail
              go_roundw
              case rel => exact ⟨k + 1, hlt, by rw [r3, E1.out], by simp [cm, hc, f1], by first | rfl | trivial⟩
              case measure => first | (simp [intOf]; omega) | (simp [intOf, r3]; omega)
          · go_wp2_with fail
            go_roundw
            case rel => exact ⟨k + 1, hlt, by rw [r3, E1.out], by simp [cm, hc], by first | rfl | trivial⟩
            case measure => first | (simp [intOf]; omega) | (simp [intOf, r3]; omega)
        · obtain rfl : k = l.toNat := by omega
          have e0 : ¬ x + (l.toNat : Int) < x + l := by omega
          go_wp2_with fail
          refine (H5.out _).mono ?_
          rintro e w4 ⟨rfl, hb4⟩
          have hbb : Below w.heap.size w w4 := (HB2.out.trans (HBB.out.mono HB2.out.size)).trans (hb4.mono (Nat.le_trans HB2.out.size HBB.out.size))
          have HBC := Lib.hid hbb
          clear hbb hb4 d0 d1 d2 d3
          go_wp2_with fail
          refine (HLV.out _ HBC.out).mono ?_
          rintro e w5 ⟨rfl, hb5⟩
          have HB5 := Lib.hid (HBC.out.trans (hb5.mono HBC.out.size))
          clear hb5
          go_wp2_with fail
          go_ret
          exact ⟨rfl, HB5.out⟩
end Go.Proofs.YtojmckbpafkagaaGreatDoor
