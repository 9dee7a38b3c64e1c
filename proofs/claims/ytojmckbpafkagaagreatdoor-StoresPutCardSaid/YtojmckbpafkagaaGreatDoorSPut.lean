/- Contracts: stores.within, Get, Put. -/
import Derived.Test.YtojmckbpafkagaaGreatDoorSByt
import Derived.Test.YtojmckbpafkagaaGreatDoorSChg
set_option linter.unusedVariables false
set_option linter.unusedSimpArgs false
namespace Go.Proofs.YtojmckbpafkagaaGreatDoor
open Go.RowKit Go.Lib Go.Maps
set_option maxRecDepth 100000
/-- The error of a place. -/
def wi (n : Nat) (p0 p1 : Int) : Int := if p0 < 0 ∨ p1 < 0 then 1 else if (n : Int) < p0 ∨ (n : Int) - p0 < p1 then 5 else 0
theorem i64_sub (n : Nat) (p : Int) (hn : n ≤ 1000000) (h0 : 0 ≤ p) (h1 : p ≤ n) : IntKind.i64.wrap ((n : Int) - p) = (n : Int) - p := i64_sm _ (by omega) (by omega)
theorem w64_sub (n : Nat) (p : Int) (hn : n ≤ 1000000) (h0 : 0 ≤ p) (h1 : p ≤ n) : wrap64 ((n : Int) - p) = (n : Int) - p := w64_sm _ (by omega) (by omega)
theorem within_any (A : Option Addr) (n c : Nat) (p0 p1 : Int) (w : World) (hn : n ≤ 1000000) :
    Calls Tryz.prog 17 #[.slice A n c, .agg #[.int .i64 p0, .int .i64 p1]] w fun e w' => e = .returned (.int .i64 (wi n p0 p1)) ∧ Below w.heap.size w w' := by
  have hb : Below w.heap.size w (w.alloc (.cells #[.int .i64 p0, .int .i64 p1] 23)) := (Below.refl _ w).alloc (Nat.le_refl _) _
  by_cases h0 : p0 < 0
  · have e : wi n p0 p1 = 1 := by simp [wi, h0]
    rw [e]
    go_enter Tryz.func17, Tryz.ntmps17
    go_wp2_with fail
    go_ret
    exact ⟨rfl, hb⟩
  · by_cases h1 : p1 < 0
    · have e : wi n p0 p1 = 1 := by simp [wi, h1]
      rw [e]
      go_enter Tryz.func17, Tryz.ntmps17
      go_wp2_with fail
      go_ret
      exact ⟨rfl, hb⟩
    · by_cases h2 : (n : Int) < p0
      · have e : wi n p0 p1 = 5 := by simp [wi, h0, h1, h2]
        rw [e]
        go_enter Tryz.func17, Tryz.ntmps17
        go_wp2_with fail
        go_ret
        exact ⟨rfl, hb⟩
      · have r1 := i64_sub n p0 hn (by omega) (by omega)
        have r2 := w64_sub n p0 hn (by omega) (by omega)
        by_cases h3 : (n : Int) - p0 < p1
        · have e : wi n p0 p1 = 5 := by simp [wi, h0, h1, h3]
          rw [e]
          go_enter Tryz.func17, Tryz.ntmps17
          go_wp2_with fail
          go_ret
          exact ⟨rfl, hb⟩
        · have e : wi n p0 p1 = 0 := by simp [wi, h0, h1, h2, h3]
          rw [e]
          go_enter Tryz.func17, Tryz.ntmps17
          go_wp2_with fail
          go_ret
          exact ⟨rfl, hb⟩
theorem get_bad (A : Option Addr) (n c : Nat) (p0 p1 : Int) (w : World) (hn : n ≤ 1000000) (h : wi n p0 p1 ≠ 0) :
    Calls Tryz.prog 9 #[.slice A n c, .agg #[.int .i64 p0, .int .i64 p1]] w fun e w' => e = .returned (.tuple #[.slice none 0 0, .int .i64 (wi n p0 p1)]) ∧ Below w.heap.size w w' := by
  have h' : (wi n p0 p1 != 0) = true := by simpa using h
  have HW := Lib.hid (fun W => within_any A n c p0 p1 W hn)
  generalize wi n p0 p1 = z at h' HW ⊢
  have hb : Below w.heap.size w (w.alloc (.cells #[.int .i64 p0, .int .i64 p1] 23)) := (Below.refl _ w).alloc (Nat.le_refl _) _
  have HBB := Lib.hid hb
  clear hb h
  go_enter Tryz.func9, Tryz.ntmps9
  go_wp2_with fail
  refine (HW.out _).mono ?_
  rintro e w1 ⟨rfl, hb1⟩
  have HB := Lib.hid (HBB.out.trans (hb1.mono HBB.out.size))
  clear hb1
  go_wp2_with fail
  refine bodyPost_ret (results_tmp2 rfl _ _ _) rfl ?_
  exact ⟨rfl, HB.out⟩
theorem clipO_any (A : Option Addr) (n c : Nat) (w : World) (h : (∃ a, A = some a ∧ n ≤ c) ∨ (A = none ∧ n = 0 ∧ c = 0)) :
    Calls Tryz.prog 18 #[.slice A n c] w fun e w' => e = .returned (.slice A n n) ∧ w = w' := by
  rcases h with ⟨a, rfl, hc⟩ | ⟨rfl, rfl, rfl⟩
  · exact clipB_any a n c w hc
  · exact clipB_nil w
/-- What Clone gives, whatever the slice. -/
theorem cloneO_any (A : Option Addr) (c : Nat) (w : World) (l : List UInt8) (h : By w NoM A l.length l) (hl : l.length ≤ 90000000) (ha : (∃ a, A = some a) ∨ (A = none ∧ l.length = 0 ∧ c = 0)) :
    Calls Tryz.prog 19 #[.slice A l.length c] w fun e w' => ∃ B cap, e = .returned (.slice B l.length cap) ∧ ((∃ a, B = some a ∧ l.length ≤ cap) ∨ (B = none ∧ l.length = 0 ∧ cap = 0)) ∧ By w' (· < w.heap.size) B l.length l ∧ Below w.heap.size w w' := by
  rcases ha with ⟨a, rfl⟩ | ⟨rfl, h0, rfl⟩
  · refine (cloneB_at a c w NoM l h hl).mono ?_
    rintro e w' ⟨g, cap, rfl, h1, h2, _, h4, h5⟩
    exact ⟨_, cap, rfl, .inl ⟨_, rfl, h1⟩, h4, h5⟩
  · obtain rfl := List.eq_nil_of_length_eq_zero h0
    refine (cloneB_nil w).mono ?_
    rintro e w' ⟨rfl, rfl⟩
    exact ⟨none, 0, rfl, .inr ⟨rfl, rfl, rfl⟩, By.nil_, Below.refl _ _⟩
theorem get_ok (A : Option Addr) (n c i k : Nat) (l : List UInt8) (w : World) (hn : n ≤ 1000000) (hik : i + k ≤ n) (h : By w NoM A n l) (ha : (∃ a, A = some a ∧ n ≤ c) ∨ (A = none ∧ n = 0 ∧ c = 0)) :
    Calls Tryz.prog 9 #[.slice A n c, .agg #[.int .i64 (i : Nat), .int .i64 (k : Nat)]] w fun e w' => ∃ B, e = .returned (.tuple #[.slice B k k, .int .i64 0]) ∧ By w' (· < w.heap.size) B k ((l.take (i + k)).drop i) ∧ Below w.heap.size w w' := by
  have hwi : wi n (i : Nat) (k : Nat) = 0 := by unfold wi; rw [if_neg (by omega), if_neg (by omega)]
  have hw := fun W => within_any A n c (i : Nat) (k : Nat) W hn
  rw [hwi] at hw
  have HW := Lib.hid hw
  have hb : Below w.heap.size w (w.alloc (.cells #[.int .i64 (i : Nat), .int .i64 (k : Nat)] 23)) := (Below.refl _ w).alloc (Nat.le_refl _) _
  have hc : ∀ W', Below (w.alloc (.cells #[.int .i64 (i : Nat), .int .i64 (k : Nat)] 23)).heap.size (w.alloc (.cells #[.int .i64 (i : Nat), .int .i64 (k : Nat)] 23)) W' → W'.cell? ⟨w.heap.size, 0, none⟩ = some (.int .i64 (i : Nat)) ∧ W'.cell? ⟨w.heap.size, 1, none⟩ = some (.int .i64 (k : Nat)) := fun W' hb => by
    have k0 := (hb.block w.heap.size (by simp)).trans (heap_alloc_new w _)
    exact ⟨cell_of_row W' _ 0 _ _ _ k0, cell_of_row W' _ 1 _ _ _ k0⟩
  have HBB := Lib.hid hb
  have HC := Lib.hid hc
  have HBy := Lib.hid h
  have HA := Lib.hid ha
  have HIK := Lib.hid hik
  have HN := Lib.hid hn
  have hcap : n ≤ c := by
    rcases ha with ⟨_, _, h⟩ | ⟨_, h1, h2⟩
    · exact h
    · omega
  have HCAP := Lib.hid hcap
  have hs1 : wrap64 ((i : Int) + (k : Int)) = ((i + k : Nat) : Int) := (w64_sm _ (by omega) (by omega)).trans (by omega)
  have hs2 : IntKind.i64.wrap ((i : Int) + (k : Int)) = ((i + k : Nat) : Int) := (i64_sm _ (by omega) (by omega)).trans (by omega)
  clear hb hc h ha hik hn hwi hw hcap
  go_enter Tryz.func9, Tryz.ntmps9
  go_wp2_with fail
  refine (HW.out _).mono ?_
  rintro e w1 ⟨rfl, hb1⟩
  obtain ⟨c0, c1⟩ := HC.out _ hb1
  have HB := Lib.hid (HBB.out.trans (hb1.mono HBB.out.size))
  clear hb1
  go_wp2_with (refine wpList_part rfl (.tmp 13) (.tmp 15) (.tmp 20) rfl A n c rfl i (i + k) rfl rfl (Nat.le_add_right i k) HIK.out HCAP.out ?_)
  intro A' hA'
  have hby := hA'.out w1 NoM l (HBy.out.below HB.out)
  rw [Nat.add_sub_cancel_left] at hby
  have hlen : ((l.take (i + k)).drop i).length = k := hby.1
  have ha' : (∃ a, A' = some a) ∨ (A' = none ∧ ((l.take (i + k)).drop i).length = 0 ∧ c - i = 0) := by
    rcases HA.out with ⟨a, e, _⟩ | ⟨e, h1, h2⟩
    · exact .inl (hA'.2.2.2.1 a e)
    · exact .inr ⟨hA'.2.2.1 e, by have := HIK.out; omega, by omega⟩
  have hcl := cloneO_any A' (c - i) w1 ((l.take (i + k)).drop i) (by rw [hlen]; exact hby) (by have := HN.out; have := HIK.out; omega) ha'
  rw [hlen] at hcl
  have HCL := Lib.hid hcl
  clear hA' hby hlen ha' hcl
  go_wp2_with fail
  refine HCL.out.mono ?_
  rintro e w2 ⟨B, cap, rfl, hB, hBy, hb2⟩
  have HCP := Lib.hid (clipO_any B k cap w2 hB)
  have HBy2 : Hid (By w2 (· < w.heap.size) B k ((l.take (i + k)).drop i)) := Lib.hid (hBy.weak fun x hx => Nat.lt_of_lt_of_le hx HB.out.size)
  have HB2 := Lib.hid (HB.out.trans (hb2.mono HB.out.size))
  clear hB hBy hb2 HCL
  go_wp2_with fail
  refine HCP.out.mono ?_
  rintro e w3 ⟨rfl, rfl⟩
  go_wp2_with fail
  refine bodyPost_ret (results_tmp2 rfl _ _ _) rfl ?_
  exact ⟨B, rfl, HBy2.out, HB2.out⟩
theorem put_bad (A : Option Addr) (n c : Nat) (p0 p1 : Int) (B : Option Addr) (m cb : Nat) (w : World) (hn : n ≤ 1000000) (h : wi n p0 p1 ≠ 0) :
    Calls Tryz.prog 10 #[.slice A n c, .agg #[.int .i64 p0, .int .i64 p1], .slice B m cb] w fun e w' => e = .returned (.tuple #[.slice none 0 0, .int .i64 (wi n p0 p1)]) ∧ Below w.heap.size w w' := by
  have h' : (wi n p0 p1 != 0) = true := by simpa using h
  have HW := Lib.hid (fun W => within_any A n c p0 p1 W hn)
  generalize wi n p0 p1 = z at h' HW ⊢
  have hb : Below w.heap.size w (w.alloc (.cells #[.int .i64 p0, .int .i64 p1] 23)) := (Below.refl _ w).alloc (Nat.le_refl _) _
  have HBB := Lib.hid hb
  clear hb h
  go_enter Tryz.func10, Tryz.ntmps10
  go_wp2_with fail
  refine (HW.out _).mono ?_
  rintro e w1 ⟨rfl, hb1⟩
  have HB := Lib.hid (HBB.out.trans (hb1.mono HBB.out.size))
  clear hb1
  go_wp2_with fail
  refine bodyPost_ret (results_tmp2 rfl _ _ _) rfl ?_
  exact ⟨rfl, HB.out⟩
theorem cells_place (p0 p1 : Int) (w W' : World) (hb : Below (w.alloc (.cells #[.int .i64 p0, .int .i64 p1] 23)).heap.size (w.alloc (.cells #[.int .i64 p0, .int .i64 p1] 23)) W') : W'.cell? ⟨w.heap.size, 0, none⟩ = some (.int .i64 p0) ∧ W'.cell? ⟨w.heap.size, 1, none⟩ = some (.int .i64 p1) := by
  have k0 := (hb.block w.heap.size (by simp)).trans (heap_alloc_new w _)
  exact ⟨cell_of_row W' _ 0 _ _ _ k0, cell_of_row W' _ 1 _ _ _ k0⟩
theorem put_len (A : Option Addr) (n c : Nat) (p0 p1 : Int) (B : Option Addr) (m cb : Nat) (w : World) (hn : n ≤ 1000000) (h : wi n p0 p1 = 0) (hm : (m : Int) ≠ p1) :
    Calls Tryz.prog 10 #[.slice A n c, .agg #[.int .i64 p0, .int .i64 p1], .slice B m cb] w fun e w' => e = .returned (.tuple #[.slice none 0 0, .int .i64 5]) ∧ Below w.heap.size w w' := by
  have hm' : ((m : Int) != p1) = true := by simpa using hm
  have hw := fun W => within_any A n c p0 p1 W hn
  rw [h] at hw
  have HW := Lib.hid hw
  have hb : Below w.heap.size w (w.alloc (.cells #[.int .i64 p0, .int .i64 p1] 23)) := (Below.refl _ w).alloc (Nat.le_refl _) _
  have HBB := Lib.hid hb
  clear hb h hw hm
  go_enter Tryz.func10, Tryz.ntmps10
  go_wp2_with fail
  refine (HW.out _).mono ?_
  rintro e w1 ⟨rfl, hb1⟩
  obtain ⟨c0, c1⟩ := cells_place p0 p1 w w1 hb1
  have HB := Lib.hid (HBB.out.trans (hb1.mono HBB.out.size))
  clear hb1
  go_wp2_with fail
  refine bodyPost_ret (results_tmp2 rfl _ _ _) rfl ?_
  exact ⟨rfl, HB.out⟩
end Go.Proofs.YtojmckbpafkagaaGreatDoor
