/- What the law's digits returns. -/
import Derived.Test.YtphofgokcfdobaaDoorWA
import Derived.Test.YtphofgokcfdobaaDoorBytes
namespace Go.Proofs.YtphofgokcfdobaaDoor
open Go.RowKit
set_option maxRecDepth 100000

theorem ba_ext {a b : ByteArray} (h : a.data.toList = b.data.toList) : a = b := by rw [← Lib.mk_data a, ← Lib.mk_data b, h]
theorem data_app' (a b : ByteArray) : (a ++ b).data.toList = a.data.toList ++ b.data.toList := by
  rw [ByteArray.data_append, Array.toList_append]
def dgB (c : UInt8) : UInt8 := UInt8.ofNat (48 + c.toNat % 10)
/-- The digits of a text, at most n. -/
def dgs (n : Nat) (l : List UInt8) : List UInt8 := (l.take n).map dgB
theorem dgB_nat (c : UInt8) : ((dgB c).toNat : Int) = 48 + (c.toNat : Int) % 10 := by
  unfold dgB
  rw [UInt8.toNat_ofNat', Nat.mod_eq_of_lt (by omega)]; omega
theorem dgs_snoc (s : ByteArray) (k : Nat) (h : k < s.size) : dgs (k + 1) s.data.toList = dgs k s.data.toList ++ [dgB s[k]] := by
  unfold dgs; rw [take_snoc s k h, List.map_append]; rfl
theorem dgs_all (s : ByteArray) (n : Nat) (h : s.size ≤ n) : dgs n s.data.toList = dgs s.size s.data.toList := by
  unfold dgs; rw [List.take_of_length_le (by rw [← Lib.size_eq]; exact h), List.take_of_length_le (by rw [← Lib.size_eq]; exact Nat.le_refl _)]

set_option maxHeartbeats 2000000 in
theorem digits_any (s : ByteArray) (n : Nat) (w : World) (hs : s.size ≤ maxLen) (hn : n ≤ 1000) :
    Calls Tryd.prog 14 #[.string s, .int .i64 n] w fun e w' => e = .returned (.string ⟨(dgs n s.data.toList).toArray⟩) ∧ Below w.heap.size w w' := by
  unfold maxLen at hs
  go_enter Tryd.func14, Tryd.ntmps14
  go_wp2
  go_loopw [5, 6] (fun s5 s6 wr => ∃ k : Nat, k ≤ s.size ∧ k ≤ n ∧ s6 = .int .i64 k ∧ s5 = .string ⟨(dgs k s.data.toList).toArray⟩ ∧ Below w.heap.size w wr) (fun _ s6 _ => n - (intOf s6).toNat)
  case atStart => exact ⟨0, Nat.zero_le _, Nat.zero_le _, rfl, rfl, Below.refl _ _⟩
  case round =>
    obtain ⟨k, hk, hkn, rfl, rfl, hbel⟩ := hrel
    have HB := Lib.hid hbel
    clear hbel
    obtain ⟨o, ho⟩ : ∃ o : ByteArray, o = ⟨(dgs k s.data.toList).toArray⟩ := ⟨_, rfl⟩
    rw [← ho]
    have HO := Lib.hid ho
    have hosz : o.size ≤ 1000 := by rw [ho]; show (dgs k s.data.toList).toArray.size ≤ 1000; simp [dgs]; omega
    clear ho
    by_cases hlt : k < s.size
    · by_cases hlt2 : k < n
      · have HS := Lib.hid (dgs_snoc s k hlt)
        have hlz : (k : Int) < (s.size : Int) := by omega
        have hlz2 : (k : Int) < (n : Int) := by omega
        have hdb := Lib.hid (dgB_nat s[k])
        go_wp2_with (refine wpList_str_of rfl _ 39 9 5 rfl wr.heap.size 0 1 [dgB s[k]] rfl Tryd.underlying39 Tryd.underlying5 Tryd.underlying9 ?hcc ?_)
        case hcc =>
          intro j hj
          obtain rfl : j = 0 := by simpa using hj
          rw [Nat.add_zero]
          refine (World.cell?_alloc_new _ _ _ _).trans ?_
          show some _ = some (Value.int .u8 ((dgB s[k]).toNat : Int))
          rw [hdb.out]; rfl
        go_wp2_with fail
        go_roundw
        case rel => exact ⟨k + 1, by omega, by omega, by go_num, by rw [HS.out, HO.out]; exact congrArg Value.string (ba_ext (by rw [data_app'])), (HB.out).alloc HB.out.size _⟩
        case measure => simp [intOf]; omega
      · have hlz : (k : Int) < (s.size : Int) := by omega
        have hlz2 : (n : Int) ≤ (k : Int) := by omega
        go_wp2
        go_ret
        exact ⟨by rw [HO.out, show k = n by omega]; rfl, HB.out⟩
    · have hlz : (s.size : Int) ≤ (k : Int) := by omega
      go_wp2
      go_ret
      exact ⟨by rw [HO.out, show k = s.size by omega, ← dgs_all s n (by omega)]; rfl, HB.out⟩
end Go.Proofs.YtphofgokcfdobaaDoor
