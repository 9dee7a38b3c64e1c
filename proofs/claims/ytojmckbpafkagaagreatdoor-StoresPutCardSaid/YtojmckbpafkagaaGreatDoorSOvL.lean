/- StoresOverlap: the law answers true at any two places. -/
import Derived.Test.YtojmckbpafkagaaGreatDoorSOv
set_option linter.unusedVariables false
set_option linter.unusedSimpArgs false
namespace Go.Proofs.YtojmckbpafkagaaGreatDoor
open Go.RowKit Go.Lib
set_option maxRecDepth 100000
/-- The law's count of common bytes. -/
def cm (x b0 b1 : Int) : Nat → Bool
  | 0 => false
  | k + 1 => cm x b0 b1 k || (decide (b0 ≤ x + k) && decide (x + k < b0 + b1))
theorem cm_iff (x b0 b1 : Int) : ∀ m, cm x b0 b1 m = true ↔ ∃ k : Nat, k < m ∧ b0 ≤ x + k ∧ x + k < b0 + b1
  | 0 => by simp [cm]
  | m + 1 => by
    simp only [cm, Bool.or_eq_true, Bool.and_eq_true, decide_eq_true_eq, cm_iff x b0 b1 m]
    constructor
    · rintro (⟨k, h1, h2, h3⟩ | ⟨h2, h3⟩)
      · exact ⟨k, by omega, h2, h3⟩
      · exact ⟨m, by omega, h2, h3⟩
    · rintro ⟨k, h1, h2, h3⟩
      by_cases hk : k = m
      · subst hk; exact .inr ⟨h2, h3⟩
      · exact .inl ⟨k, by omega, h2, h3⟩
theorem u64_eq (z : Int) : IntKind.u64.wrap z = z % 18446744073709551616 := by
  rfl
theorem u64_sub (x y : Int) (h0 : 0 ≤ y - x) (h1 : y - x < 18446744073709551616) : IntKind.u64.wrap (IntKind.u64.wrap y - IntKind.u64.wrap x) = y - x := by
  rw [u64_eq, u64_eq, u64_eq]; omega
theorem u64_id (z : Int) (h0 : 0 ≤ z) (h1 : z < 18446744073709551616) : IntKind.u64.wrap z = z := by
  rw [u64_eq]; omega
def I64 (z : Int) : Prop := -9223372036854775808 ≤ z ∧ z < 9223372036854775808
theorem ovD_iff {a0 a1 b0 b1 : Int} (ha0 : I64 a0) (ha1 : I64 a1) (hb0 : I64 b0) (h : a0 ≤ b0) : ovD a0 a1 b0 b1 = true ↔ 0 < a1 ∧ 0 < b1 ∧ b0 - a0 < a1 := by
  unfold I64 at *
  unfold ovD
  rw [u64_sub a0 b0 (by omega) (by omega)]
  simp only [Bool.and_eq_true, decide_eq_true_eq]
  constructor
  · rintro ⟨⟨h1, h2⟩, h3⟩
    rw [u64_id a1 (by omega) (by omega)] at h3
    exact ⟨h1, h2, h3⟩
  · rintro ⟨h1, h2, h3⟩
    rw [u64_id a1 (by omega) (by omega)]
    exact ⟨⟨h1, h2⟩, h3⟩
theorem ov_iff {a0 a1 b0 b1 : Int} (ha0 : I64 a0) (ha1 : I64 a1) (hb0 : I64 b0) (hb1 : I64 b1) : ov a0 a1 b0 b1 = true ↔ 0 < a1 ∧ 0 < b1 ∧ b0 < a0 + a1 ∧ a0 < b0 + b1 := by
  unfold ov
  split
  · rename_i h
    rw [ovD_iff hb0 hb1 ha0 (by omega)]
    omega
  · rename_i h
    rw [ovD_iff ha0 ha1 hb0 (by omega)]
    omega
theorem ov_symm {a0 a1 b0 b1 : Int} (ha0 : I64 a0) (ha1 : I64 a1) (hb0 : I64 b0) (hb1 : I64 b1) : ov b0 b1 a0 a1 = ov a0 a1 b0 b1 := by
  rw [Bool.eq_iff_iff, ov_iff ha0 ha1 hb0 hb1, ov_iff hb0 hb1 ha0 ha1]
  omega
theorem ov_cm {a0 a1 b0 b1 : Int} (h0 : -20 < a0 ∧ a0 < 20) (h1 : -10 < a1 ∧ a1 < 10) (h2 : -20 < b0 ∧ b0 < 20) (h3 : -10 < b1 ∧ b1 < 10) : ov a0 a1 b0 b1 = cm a0 b0 b1 a1.toNat := by
  rw [Bool.eq_iff_iff, ov_iff (by unfold I64; omega) (by unfold I64; omega) (by unfold I64; omega) (by unfold I64; omega), cm_iff]
  constructor
  · rintro ⟨k1, k2, k3, k4⟩
    by_cases h : b0 ≤ a0
    · exact ⟨0, by omega, by omega, by omega⟩
    · exact ⟨(b0 - a0).toNat, by omega, by omega, by omega⟩
  · rintro ⟨k, k1, k2, k3⟩
    refine ⟨by omega, by omega, by omega, by omega⟩
end Go.Proofs.YtojmckbpafkagaaGreatDoor
