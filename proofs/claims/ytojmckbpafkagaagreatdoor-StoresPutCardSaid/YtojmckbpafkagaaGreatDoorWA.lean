/- Contracts of the functions of chars and words that only compute. -/
import Derived.Test.YtojmckbpafkagaaGreatDoorBase
import Derived.Test.YtojmckbpafkagaaGreatDoorWPlain
namespace Go.Proofs.YtojmckbpafkagaaGreatDoor
open Go.RowKit
set_option maxRecDepth 100000

def isDig (b : UInt8) : Bool := decide (48 ≤ (b.toNat : Int) ∧ (b.toNat : Int) ≤ 57)

set_option maxHeartbeats 400000 in
theorem digit_any (b : UInt8) (w : World) : Calls Tryz.prog 192 #[.int .u8 b.toNat] w fun e w' => e = .returned (.bool (isDig b)) ∧ w = w' := by
  by_cases h1 : 48 ≤ (b.toNat : Int)
  · by_cases h2 : (b.toNat : Int) ≤ 57
    · go_enter Tryz.func192, Tryz.ntmps192
      go_wp2
      go_ret
      exact ⟨by simp [isDig, h1, h2], rfl⟩
    · go_enter Tryz.func192, Tryz.ntmps192
      go_wp2
      go_ret
      exact ⟨by simp [isDig, h2], rfl⟩
  · go_enter Tryz.func192, Tryz.ntmps192
    go_wp2
    go_ret
    exact ⟨ret_bool (Eq.symm (decide_eq_false (by omega))), rfl⟩

def allDig (l : List UInt8) : Bool := l.all isDig
set_option maxHeartbeats 400000 in
theorem allDigit_any (s : ByteArray) (w : World) (hs : s.size ≤ maxLen) :
    Calls Tryz.prog 142 #[.string s, .func (.func 192) #[] #[]] w fun e w' => e = .returned (.bool (allDig s.data.toList)) ∧ w = w' := by
  unfold maxLen at hs
  go_enter Tryz.func142, Tryz.ntmps142
  go_wp2
  go_loop [5, 8] (fun _ i => ∃ k : Nat, k ≤ s.size ∧ i = .int .i64 k ∧ Hid (allDig (s.data.toList.take k) = true)) (fun _ i => s.size - (intOf i).toNat)
  case atStart => exact ⟨0, Nat.zero_le _, rfl, rfl⟩
  case round =>
    obtain ⟨k, hk, rfl, hall⟩ := hrel
    by_cases hlt : k < s.size
    · have HS := Lib.hid (take_snoc s k hlt)
      by_cases hd : isDig s[k] = true
      · go_wp2_with (go_at_call 192; refine (digit_any _ _).mono ?_; rintro e w' ⟨rfl, rfl⟩)
        go_round
        case rel => exact ⟨k + 1, by omega, by go_num, by show _ = true; have := hall.out; unfold allDig at *; rw [HS.out]; simp [this, hd]⟩
        case measure => simp [intOf]; omega
      · have hd' : isDig s[k] = false := by simpa using hd
        go_wp2_with (go_at_call 192; refine (digit_any _ _).mono ?_; rintro e w' ⟨rfl, rfl⟩)
        go_ret
        refine ⟨ret_bool (Eq.symm ?_), rfl⟩
        rw [allDig, ← List.take_append_drop (k + 1) s.data.toList, HS.out]; simp [hd']
    · go_wp2
      go_ret
      refine ⟨ret_bool (Eq.symm ?_), rfl⟩
      have := hall.out
      rw [List.take_of_length_le (by simp; omega)] at this
      exact this

def isDigs (l : List UInt8) : Bool := !l.isEmpty && allDig l

set_option maxHeartbeats 400000 in
theorem isDigits_any (s : ByteArray) (w : World) (hs : s.size ≤ maxLen) :
    Calls Tryz.prog 125 #[.string s] w fun e w' => e = .returned (.bool (isDigs s.data.toList)) ∧ w = w' := by
  by_cases h : s.toList.isEmpty = true
  · go_enter Tryz.func125, Tryz.ntmps125
    go_wp2
    go_ret
    rw [Lib.toList_data] at h
    exact ⟨by simp [isDigs, h], rfl⟩
  · have h : s.toList.isEmpty = false := by simpa using h
    go_enter Tryz.func125, Tryz.ntmps125
    go_wp2_with (go_at_call 142; refine (allDigit_any _ _ hs).mono ?_; rintro e w' ⟨rfl, rfl⟩)
    go_ret
    rw [Lib.toList_data] at h
    exact ⟨by simp [isDigs, h], rfl⟩

/-- The figurative constants: their bytes. -/
def figs : List (List UInt8 × Nat) := [([90, 69, 82, 79], 48), ([90, 69, 82, 79, 83], 48), ([90, 69, 82, 79, 69, 83], 48), ([83, 80, 65, 67, 69], 32), ([83, 80, 65, 67, 69, 83], 32),
  ([72, 73, 71, 72, 45, 86, 65, 76, 85, 69], 255), ([72, 73, 71, 72, 45, 86, 65, 76, 85, 69, 83], 255), ([76, 79, 87, 45, 86, 65, 76, 85, 69], 0), ([76, 79, 87, 45, 86, 65, 76, 85, 69, 83], 0),
  ([81, 85, 79, 84, 69], 34), ([81, 85, 79, 84, 69, 83], 34)]
def figAt : List (List UInt8 × Nat) → List UInt8 → Option Nat
  | [], _ => none
  | p :: t, l => if (l == p.1) = true then some p.2 else figAt t l
def fig (l : List UInt8) : Option Nat := figAt figs l
def figByte (l : List UInt8) : Int := ((fig l).getD 0 : Nat)
def figIs (l : List UInt8) : Bool := (fig l).isSome

set_option maxHeartbeats 1000000 in
theorem byte_any (s : ByteArray) (w : World) :
    Calls Tryz.prog 111 #[.string s] w fun e w' => e = .returned (.tuple #[.int .u8 (figByte s.data.toList), .bool (figIs s.data.toList)]) ∧ w = w' := by
  rw [← Lib.toList_data]
  go_enter Tryz.func111, Tryz.ntmps111
  go_wp2
  all_goals
    go_ret2
    refine ⟨?_, rfl⟩
    go_light
    simp_all [figByte, figIs, fig, figAt, figs]
end Go.Proofs.YtojmckbpafkagaaGreatDoor
