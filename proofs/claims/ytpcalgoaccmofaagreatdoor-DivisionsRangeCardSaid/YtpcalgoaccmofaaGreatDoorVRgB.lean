/- divisions.Range, another case. -/
import Derived.Test.YtpcalgoaccmofaaGreatDoorVRg10
import Derived.OwnWalk
set_option linter.unusedVariables false
set_option linter.unusedSimpArgs false
namespace Go.Proofs.YtpcalgoaccmofaaGreatDoor
open Go.RowKit
set_option maxRecDepth 100000
set_option maxHeartbeats 1000000 in
theorem rangeB (xs : List (VB × VB)) (A : Option Addr) (c : Nat) (n s : VB) (w : World) (hP : PgAt w A xs) (hn : n ≠ []) (hs : s ≠ []) (hl : xs.length ≤ 1000) :
    Calls Tryz.prog 5 #[pgV A xs.length c, .string ⟨n.toArray⟩, .string ⟨s.toArray⟩] w fun e w' =>
      e = .returned (.tuple #[.int .i64 (rgOut (VR.run (rg xs n s) xs xs.length)).1, .int .i64 (rgOut (VR.run (rg xs n s) xs xs.length)).2.1, .int .i64 (rgOut (VR.run (rg xs n s) xs xs.length)).2.2]) ∧ Below w.heap.size w w' := by
  have HP := Lib.hid hP
  have HL := Lib.hid hl
  have HSM := Lib.hid (rg_small xs n s)
  obtain ⟨q1, q2⟩ := vnil hn
  obtain ⟨r1, r2⟩ := vnil hs
  have HN := Lib.hid hn
  have HS := Lib.hid hs
  have HEQ := Lib.hid (fun x : VB => veq x n)
  have HEQS := Lib.hid (fun x : VB => veq x s)
  clear hP hl hn hs
  generalize hnb : (⟨n.toArray⟩ : ByteArray) = nb at HEQ q1 q2
  generalize hsb : (⟨s.toArray⟩ : ByteArray) = sb at HEQS r1 r2
  go_enter Tryz.func5, Tryz.ntmps5
  have hz := heap_alloc_new w (pgC A xs.length c)
  have HB0 := Lib.hid ((Below.refl w.heap.size w).alloc (Nat.le_refl _) (pgC A xs.length c))
  have hbk := fun j => cell_of_row (w.alloc (pgC A xs.length c)) w.heap.size j _ _ _ hz
  go_wp2
  have HZ := Lib.hid hz
  clear hz hbk
  have hs0 : (w.alloc (pgC A xs.length c)).heap.size = w.heap.size + 1 := by simp
  have HS0 := Lib.hid hs0
  clear hs0
  generalize w.alloc (pgC A xs.length c) = w1 at HZ HB0 HS0 ⊢
  go_loopw [6, 7, 9, 15] (fun a b m i wr => ∃ j : Nat, j ≤ xs.length ∧ i = .int .i64 j ∧ a = .int .i64 (VR.run (rg xs n s) xs j).1 ∧ b = .int .i64 (VR.run (rg xs n s) xs j).2.1 ∧ m = .int .i64 (VR.run (rg xs n s) xs j).2.2 ∧ Hid (Below w1.heap.size w1 wr)) (fun _ _ _ i _ => xs.length - (intOf i).toNat)
  case atStart => exact ⟨0, Nat.zero_le _, rfl, rfl, rfl, rfl, Lib.hid (Below.refl _ _)⟩
  case round =>
    obtain ⟨j, hj, rfl, rfl, rfl, rfl, HB⟩ := hrel
    have HBW := Lib.hid (HB0.out.trans (HB.out.mono HB0.out.size))
    by_cases hlt : j < xs.length
    · obtain ⟨g, rfl, hg, hc⟩ := HP.out (by omega)
      obtain ⟨c0, c1, c2, c3, c4⟩ := hc j hlt
      have HC := Lib.hid hc
      have HG := Lib.hid hg
      replace c0 := (HBW.out.cell (p := ⟨g, _, none⟩) hg).trans c0
      replace c1 := (HBW.out.cell (p := ⟨g, _, none⟩) hg).trans c1
      replace c2 := (HBW.out.cell (p := ⟨g, _, none⟩) hg).trans c2
      replace c3 := (HBW.out.cell (p := ⟨g, _, none⟩) hg).trans c3
      replace c4 := (HBW.out.cell (p := ⟨g, _, none⟩) hg).trans c4
      have HZr := Lib.hid (heap_alloc_new wr pgZ)
      have hjl : (j : Int) < (xs.length : Nat) := by omega
      have HLT := Lib.hid hlt
      have HE1 := Lib.hid (HEQ.out xs[j].1)
      have HE2 := Lib.hid (HEQ.out xs[j].2)
      have HE3 := Lib.hid (HEQS.out xs[j].2)
      have HRS := Lib.hid (run_succ (rg xs n s) xs j hlt)
      have HSJ := Lib.hid (HSM.out j (by omega))
      have HX := Lib.hid (List.getElem?_eq_getElem hlt)
      generalize VR.run (rg xs n s) xs j = st at HRS HSJ ⊢
      obtain ⟨f, l, m⟩ := st
      generalize hx : xs[j] = x at c0 c1 HE1 HE2 HE3 HRS HX
      obtain ⟨x1, x2⟩ := x
      clear hc hg hx hlt
      simp only at c0 c1
      go_wp2_with (refine wpList_store_row rfl _ _ 36 rfl wr.heap.size rfl [.string ⟨x2.toArray⟩, .string ⟨x1.toArray⟩, .slice none 0 0, .int .i64 0, .int .i64 0] rfl _ _ HZr.out rfl (by kernel_rfl) rfl ?_)
      intro W3 hrow hg3 hsz
      have hb3 := ((Below.refl wr.heap.size wr).alloc (Nat.le_refl _) pgZ).grown hg3 (by simp) (fun k e => by injection e with e; omega)
      have HB3 := Lib.hid (HB.out.trans (hb3.mono HB.out.size))
      have hk := fun k => cell_of_row W3 wr.heap.size k _ _ _ hrow
      have hb0 := fun k => cell_of_row W3 w.heap.size k _ _ _ ((HB3.out.block w.heap.size (by have := HS0.out; omega)).trans HZ.out)
      clear hrow hg3 hsz HZr c0 c1 c2 c3 c4 hb3
      generalize wr.heap.size = bx at hk ⊢
      generalize (⟨x1.toArray⟩ : ByteArray) = X1 at HE1 hk
      generalize (⟨x2.toArray⟩ : ByteArray) = X2 at HE2 HE3 hk
      have hfl : f ≤ j - 1 ∧ l ≤ j - 1 ∧ m ≤ 2 * j := HSJ.out
      have hj9 : j ≤ 100000 ∧ m ≤ 90000 := by have := HL.out; have := HLT.out; omega
      have HWJ := Lib.hid (vw64i j hj9.1)
      have HWM := Lib.hid (vw64i m (by omega))
      clear hfl hj9
      have HKEY : (x1 = n ∧ (X1.toList == nb.toList) = true) ∨ (x1 ≠ n ∧ (X1.toList == nb.toList) = false) := by
        by_cases e1 : x1 = n
        · exact .inl ⟨e1, by rw [HE1.out]; exact decide_eq_true e1⟩
        · exact .inr ⟨e1, by rw [HE1.out]; exact decide_eq_false e1⟩
      have HKEY2 : (x2 = s ∧ (X2.toList == sb.toList) = true) ∨ (x2 ≠ s ∧ (X2.toList == sb.toList) = false) := by
        by_cases e1 : x2 = s
        · exact .inl ⟨e1, by rw [HE3.out]; exact decide_eq_true e1⟩
        · exact .inr ⟨e1, by rw [HE3.out]; exact decide_eq_false e1⟩
      rcases HKEY with ⟨e1, h1⟩ | ⟨e1, h1⟩
      · have HX1 := Lib.hid e1
        clear e1
        rcases HKEY2 with ⟨e2, h2⟩ | ⟨e2, h2⟩
        · have HX2 := Lib.hid e2
          clear e2
          go_wp2
          go_roundw
          case rel => (refine ⟨j + 1, HLT.out, by simp [HWJ.out], ?_, ?_, ?_, Lib.hid HB3.out⟩ <;> (rw [HRS.out]; simp [rg, HN.out, HS.out, HX1.out, HX2.out, HWM.out]))
          case measure => exact vmea _ _ HLT.out HL.out
        · have HX2 := Lib.hid e2
          clear e2
          go_wp2
          go_roundw
          case rel => (refine ⟨j + 1, HLT.out, by simp [HWJ.out], ?_, ?_, ?_, Lib.hid HB3.out⟩ <;> (rw [HRS.out]; simp [rg, HN.out, HS.out, HX1.out, HX2.out, HWM.out]))
          case measure => exact vmea _ _ HLT.out HL.out
      · have HX1 := Lib.hid e1
        have HX2 := Lib.hid (show True from trivial)
        clear e1 HKEY2
        go_wp2
        go_roundw
        case rel => (refine ⟨j + 1, HLT.out, by simp [HWJ.out], ?_, ?_, ?_, Lib.hid HB3.out⟩ <;> (rw [HRS.out]; simp [rg, HN.out, HS.out, HX1.out, HX2.out, HWM.out]))
        case measure => exact vmea _ _ HLT.out HL.out
    · obtain rfl : j = xs.length := by omega
      have HSJ := Lib.hid (HSM.out xs.length (Nat.le_refl _))
      generalize hst : VR.run (rg xs n s) xs xs.length = st at HSJ ⊢
      obtain ⟨f, l, m⟩ := st
      have HST := Lib.hid hst
      clear hst
      have v0 := vone m 0
      have v1 := vone m 1
      clear hlt
      by_cases d0 : m = 0
      · have g0 : ((m : Int) == 0) = true := by rw [decide_eq_true d0] at v0; exact v0
        have HD := Lib.hid d0
        clear d0 v0 v1
        go_wp2
        go_ret3
        exact ⟨by simp [rgOut, HST.out, HD.out], HBW.out⟩
      · have g0 : ((m : Int) == 0) = false := by rw [decide_eq_false d0] at v0; exact v0
        have HD := Lib.hid d0
        clear d0 v0
        by_cases d1 : m = 1
        · have g1 : ((m : Int) == 1) = true := by rw [decide_eq_true d1] at v1; exact v1
          have HD1 := Lib.hid d1
          clear d1 v1
          go_wp2
          go_ret3
          exact ⟨by simp [rgOut, HST.out, HD1.out], HBW.out⟩
        · have g1 : ((m : Int) == 1) = false := by rw [decide_eq_false d1] at v1; exact v1
          have HD1 := Lib.hid d1
          clear d1 v1
          go_wp2
          go_ret3
          exact ⟨by simp [rgOut, HST.out, HD.out, HD1.out], HBW.out⟩
end Go.Proofs.YtpcalgoaccmofaaGreatDoor
