import Derived.Test.YtjbepnkchoaipaaGreatM43
import Derived.Test.YtjbepnkchoaipaaGreatM31
set_option linter.unusedVariables false
set_option linter.unusedSimpArgs false
/- Law 31: the law's model: start. -/
namespace Go.Proofs.YtjbepnkchoaipaaGreat
open Go.RowKit Go.Lib Go.Maps Go.WideMaps Go.Sort
set_option maxRecDepth 100000
theorem pos_snoc {r : Nat} {k : Int} {l : R.Rows} {x : Nat × J.B} (hp : ∀ y ∈ l, 1 ≤ y.1) : R.pos r k (l ++ [x]) = if r = 3 ∨ r = 4 then (if holds r x.1 k = true then x.1 else R.pos r k l) else if R.pos r k l = 0 ∧ holds r x.1 k = true then x.1 else R.pos r k l := by
  unfold R.pos
  by_cases hr : r = 3 ∨ r = 4
  · simp only [if_pos hr]
    rw [List.reverse_append, List.reverse_singleton, List.singleton_append, List.find?_cons]
    cases holds r x.1 k with
    | true => rfl
    | false => rfl
  · simp only [if_neg hr]
    rw [List.find?_append]
    cases hf : l.find? (fun x => holds r x.1 k) with
    | some y =>
      have h1 := hp y (List.mem_of_find?_eq_some hf)
      show y.1 = if y.1 = 0 ∧ _ then x.1 else y.1
      rw [if_neg (by omega)]
    | none =>
      rw [List.find?_cons]
      cases holds r x.1 k with
      | true => rfl
      | false => rfl
theorem chk_nilS (wrong : J.B) (need : Bool) (a b : Nat) (rel : Bool) (mode : Nat) (hw : wrong ≠ [] := by decide) : chk wrong need a b rel mode ≠ [] := by
  unfold chk
  split
  · decide
  · split
    · decide
    · split
      · exact hw
      · decide
section
variable {w w' : World} {q : Nat} {M : Nat → Prop} {m : R.M}
/-- What holds at the beginning of a round of start. -/
structure MsI (w : World) (q : Nat) (m : R.M) (v : Value) (n : Nat) (W : World) : Prop where
  g : w.grownBy W (some q)
  row : W.heap[q]? = some (modO m.rel m.size m.there v m.mode n 0)
theorem msi_set {W : World} {v : Value} {n : Nat} (h : MsI w q m v n W) (x : Nat) : MsI w q m v x (W.setCell ⟨q, 5, none⟩ (.int .i64 (x : Nat))) := ⟨grown_set h.g 5 _, blk_set h.row 5 _⟩
set_option maxHeartbeats 4000000 in
theorem mstart_any (h : MdR w q M m) (hok : R.RowsOk m.rows) (hl : m.rows.length ≤ 1000000) (r : Nat) (k : Int) (hr5 : r ≤ 5) :
    Calls Tryz.prog 52 #[.pointer (some ⟨q, 0, none⟩), .int .u8 (r : Nat), .int .i64 k] w fun e w' => e = .returned (.string ⟨(m.start r k).2.toArray⟩) ∧ MR w q M (m.start r k).1 w' := by
  have HM := Lib.hid h
  obtain ⟨v, hrow, hv⟩ := h
  have HMD := Lib.hid (modes_any hrow [52, 55] true 1 3)
  have HV := Lib.hid hv
  have HRW := Lib.hid hrow
  unfold R.M.start
  by_cases hs : chk [52, 55] true 1 3 m.rel m.mode = R.good
  · rw [if_neg (Decidable.not_not.2 hs)]
    rw [mds_ok hs (by decide)] at HMD
    obtain ⟨A, c, rfl, hlc, hat, _, _⟩ := hv.slice_
    have HA := Lib.hid hat
    have HP := Lib.hid (show ∀ y ∈ m.rows, 1 ≤ y.1 from fun y hy => (hok.pos y hy).1)
    have hc := fun j => cell_of_row w q j _ _ _ hrow
    have hz := frozen_row hrow
    have HI0 := Lib.hid (show MsI w q m (.slice A m.rows.length c) (R.pos r k (m.rows.take 0)) ((w.setCell ⟨q, 6, none⟩ (.int .i64 0)).setCell ⟨q, 5, none⟩ (.int .i64 0)) from ⟨grown_set (grown_set (World.grownBy.refl w (some q)) 6 _) 5 _, by
      have : R.pos r k (m.rows.take 0) = 0 := by unfold R.pos; rw [List.take_zero]; split <;> rename_i h <;> split at h <;> first | (simp at h; done) | rfl
      rw [this]; exact blk_set (blk_set hrow 6 _) 5 _⟩)
    clear hat hv hs hok hrow
    go_enter Tryz.func52, Tryz.ntmps52
    go_wp2_with fail
    refine HMD.out.mono ?_
    rintro e w1 ⟨rfl, rfl⟩
    clear HMD
    go_wp2
    clear hc hz
    go_loopw [8] (fun i W => ∃ j : Nat, j ≤ m.rows.length ∧ i = .int .i64 j ∧ Hid (MsI w q m (.slice A m.rows.length c) (R.pos r k (m.rows.take j)) W)) (fun i _ => m.rows.length - (intOf i).toNat)
    case atStart => exact ⟨0, Nat.zero_le _, rfl, HI0⟩
    case round =>
      clear HI0
      obtain ⟨j, hj, rfl, HI⟩ := hrel
      have hc := fun j => cell_of_row wr q j _ _ _ HI.out.row
      have hz := frozen_row HI.out.row
      by_cases hlt : j < m.rows.length
      · obtain ⟨g, rfl, hg, hcells⟩ := HA.out (by omega)
        obtain ⟨c0, c1⟩ := rwCells_get m.rows j hlt
        have hno := mod_cell0 HRW.out
        have hgq : g ≠ q := by
          rintro rfl
          exact hno (m.rows[0]'(by omega)).1 (hcells 0 _ (rwCells_get m.rows 0 (by omega)).1)
        have hc0 : wr.cell? ⟨g, j * 2, none⟩ = some (nmI m.rows[j].1) := (World.cell?_of_block (HI.out.g.block g hg (fun e => hgq (by injection e)))).trans (hcells _ _ c0)
        have hsn := pos_snoc (r := r) (k := k) (l := m.rows.take j) (x := m.rows[j]) (fun y hy => HP.out y (List.mem_of_mem_take hy))
        rw [← List.take_succ_eq_append_getElem hlt] at hsn
        have HSN := Lib.hid hsn
        have HLT := Lib.hid hlt
        clear hcells c0 c1 hno hgq hsn
        generalize m.rows[j] = x at hc0 HSN
        generalize hpn : R.pos r k (m.rows.take j) = n at HI HSN hc hz
        clear hpn
        have HST := Lib.hid (msi_set HI.out x.1)
        have hn0 : n = 0 ∨ n ≠ 0 := by omega
        rcases (show r = 0 ∨ r = 1 ∨ r = 2 ∨ r = 3 ∨ r = 4 ∨ r = 5 by omega) with rfl | rfl | rfl | rfl | rfl | rfl
        -- GEN BEGIN
        · rcases hn0 with rfl | hn0
          · skip
            by_cases hp : (x.1 : Int) = k
            · subst hp
              have hp : (x.1 : Int) = (x.1 : Nat) := rfl
              have hpb : ((x.1 : Int) == (x.1 : Int)) = true := by simp
              have hh : holds 0 x.1 (x.1 : Nat) = true := by simp [holds]
              have hnew := HSN.out
              rw [if_neg (by decide)] at hnew
              rw [if_pos ⟨rfl, hh⟩] at hnew
              have HN := Lib.hid (show MsI w q m (.slice (some ⟨g, 0, none⟩) m.rows.length c) (R.pos 0 (x.1 : Nat) (m.rows.take (j + 1))) (wr.setCell ⟨q, 5, none⟩ (.int .i64 (x.1 : Nat))) by rw [hnew]; exact HST.out)
              clear hnew hh HSN HST HI
              go_wp2_with fail
              go_roundw
              case rel => exact ⟨j + 1, HLT.out, by go_num, HN⟩
              case measure => have := HLT.out; simp [intOf]; omega
            · have hpb : ((x.1 : Int) == k) = false := by simpa using hp
              have hh : holds 0 x.1 k = false := by simp [holds, hp]
              have hnew := HSN.out
              rw [if_neg (by decide)] at hnew
              rw [if_neg (fun h => by rw [hh] at h; exact absurd h.2 (by decide))] at hnew
              have HN := Lib.hid (show MsI w q m (.slice (some ⟨g, 0, none⟩) m.rows.length c) (R.pos 0 k (m.rows.take (j + 1))) wr by rw [hnew]; exact HI.out)
              clear hnew hh HSN HST HI
              go_wp2_with fail
              go_roundw
              case rel => exact ⟨j + 1, HLT.out, by go_num, HN⟩
              case measure => have := HLT.out; simp [intOf]; omega
          · have hn1 : ((n : Int) == 0) = false := by simp; omega
            by_cases hp : (x.1 : Int) = k
            · subst hp
              have hp : (x.1 : Int) = (x.1 : Nat) := rfl
              have hpb : ((x.1 : Int) == (x.1 : Int)) = true := by simp
              have hh : holds 0 x.1 (x.1 : Nat) = true := by simp [holds]
              have hnew := HSN.out
              rw [if_neg (by decide)] at hnew
              rw [if_neg (fun h => hn0 h.1)] at hnew
              have HN := Lib.hid (show MsI w q m (.slice (some ⟨g, 0, none⟩) m.rows.length c) (R.pos 0 (x.1 : Nat) (m.rows.take (j + 1))) wr by rw [hnew]; exact HI.out)
              clear hnew hh HSN HST HI
              go_wp2_with fail
              go_roundw
              case rel => exact ⟨j + 1, HLT.out, by go_num, HN⟩
              case measure => have := HLT.out; simp [intOf]; omega
            · have hpb : ((x.1 : Int) == k) = false := by simpa using hp
              have hh : holds 0 x.1 k = false := by simp [holds, hp]
              have hnew := HSN.out
              rw [if_neg (by decide)] at hnew
              rw [if_neg (fun h => by rw [hh] at h; exact absurd h.2 (by decide))] at hnew
              have HN := Lib.hid (show MsI w q m (.slice (some ⟨g, 0, none⟩) m.rows.length c) (R.pos 0 k (m.rows.take (j + 1))) wr by rw [hnew]; exact HI.out)
              clear hnew hh HSN HST HI
              go_wp2_with fail
              go_roundw
              case rel => exact ⟨j + 1, HLT.out, by go_num, HN⟩
              case measure => have := HLT.out; simp [intOf]; omega
        · rcases hn0 with rfl | hn0
          · skip
            by_cases hp : k < (x.1 : Nat)
            · have hh : holds 1 x.1 k = true := by simp [holds, hp]
              have hnew := HSN.out
              rw [if_neg (by decide)] at hnew
              rw [if_pos ⟨rfl, hh⟩] at hnew
              have HN := Lib.hid (show MsI w q m (.slice (some ⟨g, 0, none⟩) m.rows.length c) (R.pos 1 k (m.rows.take (j + 1))) (wr.setCell ⟨q, 5, none⟩ (.int .i64 (x.1 : Nat))) by rw [hnew]; exact HST.out)
              clear hnew hh HSN HST HI
              go_wp2_with fail
              go_roundw
              case rel => exact ⟨j + 1, HLT.out, by go_num, HN⟩
              case measure => have := HLT.out; simp [intOf]; omega
            · have hh : holds 1 x.1 k = false := by simp [holds, hp]
              have hnew := HSN.out
              rw [if_neg (by decide)] at hnew
              rw [if_neg (fun h => by rw [hh] at h; exact absurd h.2 (by decide))] at hnew
              have HN := Lib.hid (show MsI w q m (.slice (some ⟨g, 0, none⟩) m.rows.length c) (R.pos 1 k (m.rows.take (j + 1))) wr by rw [hnew]; exact HI.out)
              clear hnew hh HSN HST HI
              go_wp2_with fail
              go_roundw
              case rel => exact ⟨j + 1, HLT.out, by go_num, HN⟩
              case measure => have := HLT.out; simp [intOf]; omega
          · have hn1 : ((n : Int) == 0) = false := by simp; omega
            by_cases hp : k < (x.1 : Nat)
            · have hh : holds 1 x.1 k = true := by simp [holds, hp]
              have hnew := HSN.out
              rw [if_neg (by decide)] at hnew
              rw [if_neg (fun h => hn0 h.1)] at hnew
              have HN := Lib.hid (show MsI w q m (.slice (some ⟨g, 0, none⟩) m.rows.length c) (R.pos 1 k (m.rows.take (j + 1))) wr by rw [hnew]; exact HI.out)
              clear hnew hh HSN HST HI
              go_wp2_with fail
              go_roundw
              case rel => exact ⟨j + 1, HLT.out, by go_num, HN⟩
              case measure => have := HLT.out; simp [intOf]; omega
            · have hh : holds 1 x.1 k = false := by simp [holds, hp]
              have hnew := HSN.out
              rw [if_neg (by decide)] at hnew
              rw [if_neg (fun h => by rw [hh] at h; exact absurd h.2 (by decide))] at hnew
              have HN := Lib.hid (show MsI w q m (.slice (some ⟨g, 0, none⟩) m.rows.length c) (R.pos 1 k (m.rows.take (j + 1))) wr by rw [hnew]; exact HI.out)
              clear hnew hh HSN HST HI
              go_wp2_with fail
              go_roundw
              case rel => exact ⟨j + 1, HLT.out, by go_num, HN⟩
              case measure => have := HLT.out; simp [intOf]; omega
        · rcases hn0 with rfl | hn0
          · skip
            by_cases hp : k ≤ (x.1 : Nat)
            · have hh : holds 2 x.1 k = true := by simp [holds, hp]
              have hnew := HSN.out
              rw [if_neg (by decide)] at hnew
              rw [if_pos ⟨rfl, hh⟩] at hnew
              have HN := Lib.hid (show MsI w q m (.slice (some ⟨g, 0, none⟩) m.rows.length c) (R.pos 2 k (m.rows.take (j + 1))) (wr.setCell ⟨q, 5, none⟩ (.int .i64 (x.1 : Nat))) by rw [hnew]; exact HST.out)
              clear hnew hh HSN HST HI
              go_wp2_with fail
              go_roundw
              case rel => exact ⟨j + 1, HLT.out, by go_num, HN⟩
              case measure => have := HLT.out; simp [intOf]; omega
            · have hh : holds 2 x.1 k = false := by simp [holds, hp]
              have hnew := HSN.out
              rw [if_neg (by decide)] at hnew
              rw [if_neg (fun h => by rw [hh] at h; exact absurd h.2 (by decide))] at hnew
              have HN := Lib.hid (show MsI w q m (.slice (some ⟨g, 0, none⟩) m.rows.length c) (R.pos 2 k (m.rows.take (j + 1))) wr by rw [hnew]; exact HI.out)
              clear hnew hh HSN HST HI
              go_wp2_with fail
              go_roundw
              case rel => exact ⟨j + 1, HLT.out, by go_num, HN⟩
              case measure => have := HLT.out; simp [intOf]; omega
          · have hn1 : ((n : Int) == 0) = false := by simp; omega
            by_cases hp : k ≤ (x.1 : Nat)
            · have hh : holds 2 x.1 k = true := by simp [holds, hp]
              have hnew := HSN.out
              rw [if_neg (by decide)] at hnew
              rw [if_neg (fun h => hn0 h.1)] at hnew
              have HN := Lib.hid (show MsI w q m (.slice (some ⟨g, 0, none⟩) m.rows.length c) (R.pos 2 k (m.rows.take (j + 1))) wr by rw [hnew]; exact HI.out)
              clear hnew hh HSN HST HI
              go_wp2_with fail
              go_roundw
              case rel => exact ⟨j + 1, HLT.out, by go_num, HN⟩
              case measure => have := HLT.out; simp [intOf]; omega
            · have hh : holds 2 x.1 k = false := by simp [holds, hp]
              have hnew := HSN.out
              rw [if_neg (by decide)] at hnew
              rw [if_neg (fun h => by rw [hh] at h; exact absurd h.2 (by decide))] at hnew
              have HN := Lib.hid (show MsI w q m (.slice (some ⟨g, 0, none⟩) m.rows.length c) (R.pos 2 k (m.rows.take (j + 1))) wr by rw [hnew]; exact HI.out)
              clear hnew hh HSN HST HI
              go_wp2_with fail
              go_roundw
              case rel => exact ⟨j + 1, HLT.out, by go_num, HN⟩
              case measure => have := HLT.out; simp [intOf]; omega
        · rcases hn0 with rfl | hn0
          · skip
            by_cases hp : (x.1 : Int) < k
            · have hh : holds 3 x.1 k = true := by simp [holds, hp]
              have hnew := HSN.out
              rw [if_pos (by decide)] at hnew
              rw [if_pos hh] at hnew
              have HN := Lib.hid (show MsI w q m (.slice (some ⟨g, 0, none⟩) m.rows.length c) (R.pos 3 k (m.rows.take (j + 1))) (wr.setCell ⟨q, 5, none⟩ (.int .i64 (x.1 : Nat))) by rw [hnew]; exact HST.out)
              clear hnew hh HSN HST HI
              go_wp2_with fail
              go_roundw
              case rel => exact ⟨j + 1, HLT.out, by go_num, HN⟩
              case measure => have := HLT.out; simp [intOf]; omega
            · have hh : holds 3 x.1 k = false := by simp [holds, hp]
              have hnew := HSN.out
              rw [if_pos (by decide)] at hnew
              rw [if_neg (by rw [hh]; decide)] at hnew
              have HN := Lib.hid (show MsI w q m (.slice (some ⟨g, 0, none⟩) m.rows.length c) (R.pos 3 k (m.rows.take (j + 1))) wr by rw [hnew]; exact HI.out)
              clear hnew hh HSN HST HI
              go_wp2_with fail
              go_roundw
              case rel => exact ⟨j + 1, HLT.out, by go_num, HN⟩
              case measure => have := HLT.out; simp [intOf]; omega
          · have hn1 : ((n : Int) == 0) = false := by simp; omega
            by_cases hp : (x.1 : Int) < k
            · have hh : holds 3 x.1 k = true := by simp [holds, hp]
              have hnew := HSN.out
              rw [if_pos (by decide)] at hnew
              rw [if_pos hh] at hnew
              have HN := Lib.hid (show MsI w q m (.slice (some ⟨g, 0, none⟩) m.rows.length c) (R.pos 3 k (m.rows.take (j + 1))) (wr.setCell ⟨q, 5, none⟩ (.int .i64 (x.1 : Nat))) by rw [hnew]; exact HST.out)
              clear hnew hh HSN HST HI
              go_wp2_with fail
              go_roundw
              case rel => exact ⟨j + 1, HLT.out, by go_num, HN⟩
              case measure => have := HLT.out; simp [intOf]; omega
            · have hh : holds 3 x.1 k = false := by simp [holds, hp]
              have hnew := HSN.out
              rw [if_pos (by decide)] at hnew
              rw [if_neg (by rw [hh]; decide)] at hnew
              have HN := Lib.hid (show MsI w q m (.slice (some ⟨g, 0, none⟩) m.rows.length c) (R.pos 3 k (m.rows.take (j + 1))) wr by rw [hnew]; exact HI.out)
              clear hnew hh HSN HST HI
              go_wp2_with fail
              go_roundw
              case rel => exact ⟨j + 1, HLT.out, by go_num, HN⟩
              case measure => have := HLT.out; simp [intOf]; omega
        · rcases hn0 with rfl | hn0
          · skip
            by_cases hp : (x.1 : Int) ≤ k
            · have hh : holds 4 x.1 k = true := by simp [holds, hp]
              have hnew := HSN.out
              rw [if_pos (by decide)] at hnew
              rw [if_pos hh] at hnew
              have HN := Lib.hid (show MsI w q m (.slice (some ⟨g, 0, none⟩) m.rows.length c) (R.pos 4 k (m.rows.take (j + 1))) (wr.setCell ⟨q, 5, none⟩ (.int .i64 (x.1 : Nat))) by rw [hnew]; exact HST.out)
              clear hnew hh HSN HST HI
              go_wp2_with fail
              go_roundw
              case rel => exact ⟨j + 1, HLT.out, by go_num, HN⟩
              case measure => have := HLT.out; simp [intOf]; omega
            · have hh : holds 4 x.1 k = false := by simp [holds, hp]
              have hnew := HSN.out
              rw [if_pos (by decide)] at hnew
              rw [if_neg (by rw [hh]; decide)] at hnew
              have HN := Lib.hid (show MsI w q m (.slice (some ⟨g, 0, none⟩) m.rows.length c) (R.pos 4 k (m.rows.take (j + 1))) wr by rw [hnew]; exact HI.out)
              clear hnew hh HSN HST HI
              go_wp2_with fail
              go_roundw
              case rel => exact ⟨j + 1, HLT.out, by go_num, HN⟩
              case measure => have := HLT.out; simp [intOf]; omega
          · have hn1 : ((n : Int) == 0) = false := by simp; omega
            by_cases hp : (x.1 : Int) ≤ k
            · have hh : holds 4 x.1 k = true := by simp [holds, hp]
              have hnew := HSN.out
              rw [if_pos (by decide)] at hnew
              rw [if_pos hh] at hnew
              have HN := Lib.hid (show MsI w q m (.slice (some ⟨g, 0, none⟩) m.rows.length c) (R.pos 4 k (m.rows.take (j + 1))) (wr.setCell ⟨q, 5, none⟩ (.int .i64 (x.1 : Nat))) by rw [hnew]; exact HST.out)
              clear hnew hh HSN HST HI
              go_wp2_with fail
              go_roundw
              case rel => exact ⟨j + 1, HLT.out, by go_num, HN⟩
              case measure => have := HLT.out; simp [intOf]; omega
            · have hh : holds 4 x.1 k = false := by simp [holds, hp]
              have hnew := HSN.out
              rw [if_pos (by decide)] at hnew
              rw [if_neg (by rw [hh]; decide)] at hnew
              have HN := Lib.hid (show MsI w q m (.slice (some ⟨g, 0, none⟩) m.rows.length c) (R.pos 4 k (m.rows.take (j + 1))) wr by rw [hnew]; exact HI.out)
              clear hnew hh HSN HST HI
              go_wp2_with fail
              go_roundw
              case rel => exact ⟨j + 1, HLT.out, by go_num, HN⟩
              case measure => have := HLT.out; simp [intOf]; omega
        · rcases hn0 with rfl | hn0
          · skip
            have hh : holds 5 x.1 k = false := rfl
            have hnew := HSN.out
            rw [if_neg (by decide)] at hnew
            rw [if_neg (fun h => by rw [hh] at h; exact absurd h.2 (by decide))] at hnew
            have HN := Lib.hid (show MsI w q m (.slice (some ⟨g, 0, none⟩) m.rows.length c) (R.pos 5 k (m.rows.take (j + 1))) wr by rw [hnew]; exact HI.out)
            clear hnew hh HSN HST HI
            go_wp2_with fail
            go_roundw
            case rel => exact ⟨j + 1, HLT.out, by go_num, HN⟩
            case measure => have := HLT.out; simp [intOf]; omega
          · have hn1 : ((n : Int) == 0) = false := by simp; omega
            have hh : holds 5 x.1 k = false := rfl
            have hnew := HSN.out
            rw [if_neg (by decide)] at hnew
            rw [if_neg (fun h => by rw [hh] at h; exact absurd h.2 (by decide))] at hnew
            have HN := Lib.hid (show MsI w q m (.slice (some ⟨g, 0, none⟩) m.rows.length c) (R.pos 5 k (m.rows.take (j + 1))) wr by rw [hnew]; exact HI.out)
            clear hnew hh HSN HST HI
            go_wp2_with fail
            go_roundw
            case rel => exact ⟨j + 1, HLT.out, by go_num, HN⟩
            case measure => have := HLT.out; simp [intOf]; omega
      -- GEN END
      · obtain rfl : j = m.rows.length := by omega
        have hrow := HI.out.row
        have hg := HI.out.g
        rw [List.take_length] at hrow hc
        have HR := Lib.hid hrow
        have HG := Lib.hid hg
        clear HI hrow hg hz
        by_cases hn : R.pos r k m.rows = 0
        · have hn1 : ((R.pos r k m.rows : Nat) : Int) = 0 := by omega
          have HN := Lib.hid hn
          clear hn
          go_wp2
          go_ret
          refine ⟨by first | rfl | rw [if_pos HN.out], HG.out, _, ?_, HV.out.grown (mod_cell0 HRW.out) HG.out⟩
          have h := HR.out
          first | exact h | (rw [HN.out] at h; exact h)
        · have hn1 : ¬ (((R.pos r k m.rows : Nat) : Int) = 0) := by omega
          have HN := Lib.hid hn
          clear hn
          go_wp2
          go_ret
          exact ⟨by first | rfl | rw [if_neg HN.out], HG.out, _, HR.out, HV.out.grown (mod_cell0 HRW.out) HG.out⟩
  · rw [if_pos hs]
    rw [mds_no hs] at HMD
    have hne : ((⟨(chk [52, 55] true 1 3 m.rel m.mode).toArray⟩ : ByteArray).toList == []) = false := bs_ne (y := []) (chk_nilS _ _ _ _ _ _)
    generalize (⟨(chk [52, 55] true 1 3 m.rel m.mode).toArray⟩ : ByteArray) = st at HMD hne ⊢
    clear hs hv hrow hok
    go_enter Tryz.func52, Tryz.ntmps52
    go_wp2_with fail
    refine HMD.out.mono ?_
    rintro e w1 ⟨rfl, rfl⟩
    clear HMD
    go_wp2
    go_ret
    exact ⟨rfl, mr_same HM.out⟩
end
end Go.Proofs.YtjbepnkchoaipaaGreat
/- Law 31: the law's model: read. -/
namespace Go.Proofs.YtjbepnkchoaipaaGreat
open Go.RowKit Go.Lib Go.Maps Go.WideMaps Go.Sort
set_option maxRecDepth 100000
theorem chk_nil (wrong : J.B) (need : Bool) (a b : Nat) (rel : Bool) (mode : Nat) (hw : wrong ≠ [] := by decide) : chk wrong need a b rel mode ≠ [] := by
  unfold chk
  split
  · decide
  · split
    · decide
    · split
      · exact hw
      · decide
theorem find_first {f : Nat → Bool} {l : R.Rows} {j : Nat} (hj : j < l.length) (hno : ∀ t (ht : t < l.length), t < j → f l[t].1 = false) (hy : f l[j].1 = true) : l.find? (fun r => f r.1) = some l[j] := by
  have e : l = l.take j ++ l[j] :: l.drop (j + 1) := by rw [← List.drop_eq_getElem_cons hj, List.take_append_drop]
  conv => lhs; rw [e]
  rw [List.find?_append, List.find?_eq_none.2 (fun x hx => by
    obtain ⟨t, ht, rfl⟩ := List.getElem_of_mem hx
    rw [List.length_take] at ht
    rw [List.getElem_take, hno t (by omega) (by omega)]; decide), Option.none_or, List.find?_cons, hy]
theorem find_none {f : Nat → Bool} {l : R.Rows} (hno : ∀ t (ht : t < l.length), f l[t].1 = false) : l.find? (fun r => f r.1) = none :=
  List.find?_eq_none.2 (fun x hx => by
    obtain ⟨t, ht, rfl⟩ := List.getElem_of_mem hx
    rw [hno t ht]; decide)
theorem lookI_find (l : R.Rows) (hok : R.RowsOk l) (k : Int) : R.lookI l k = (l.find? (fun r => decide ((r.1 : Int) = k))).map (·.2) := by
  unfold R.lookI
  by_cases hk : 1 ≤ k ∧ k ≤ 65536
  · rw [if_pos hk]
    obtain ⟨n, rfl⟩ : ∃ n : Nat, k = n := ⟨k.toNat, by omega⟩
    rw [Int.toNat_natCast]
    have hp := hok.pos
    clear hok hk
    induction l with
    | nil => rfl
    | cons r t ih =>
      unfold R.look
      rw [List.find?_cons]
      by_cases e : r.1 = n
      · rw [if_pos e, decide_eq_true (by omega)]; rfl
      · rw [if_neg e, decide_eq_false (by omega)]
        exact ih (fun x hx => hp x (List.mem_cons_of_mem _ hx))
  · rw [if_neg hk, List.find?_eq_none.2 (fun r hr => by have := hok.pos r hr; simp; omega)]
    rfl
theorem Sl.of_bytesRow {w : World} (b : J.B) (hcap : (⟨b.toArray⟩ : ByteArray).size ≤ grownCap w (⟨b.toArray⟩ : ByteArray).size 0 5) :
    Sl (w.drew.alloc (.cells (bytesRow ⟨b.toArray⟩ (grownCap w (⟨b.toArray⟩ : ByteArray).size 0 5)) 5 ((bytesRow ⟨b.toArray⟩ (grownCap w (⟨b.toArray⟩ : ByteArray).size 0 5)).size, (bytesRow ⟨b.toArray⟩ (grownCap w (⟨b.toArray⟩ : ByteArray).size 0 5)).size + 1))) NoM (.slice (some ⟨w.heap.size, 0, none⟩) (⟨b.toArray⟩ : ByteArray).size (grownCap w (⟨b.toArray⟩ : ByteArray).size 0 5)) b := by
  have hsz : (⟨b.toArray⟩ : ByteArray).size = b.length := by simp [ByteArray.size]
  rw [hsz] at hcap ⊢
  have hl : w.heap.size < (w.drew.alloc (.cells (bytesRow ⟨b.toArray⟩ (grownCap w b.length 0 5)) 5 ((bytesRow ⟨b.toArray⟩ (grownCap w b.length 0 5)).size, (bytesRow ⟨b.toArray⟩ (grownCap w b.length 0 5)).size + 1))).heap.size := by
    show w.heap.size < (w.heap.push _).size
    simp
  refine .inr ⟨w.heap.size, 0, _, rfl, hcap, hl, rfl, fun _ => ⟨w.heap.size, 0, rfl, hl, fun h => h, fun j hj => ?_⟩⟩
  rw [Nat.zero_add, cell_of_row _ w.heap.size j _ _ _ (heap_alloc_new w.drew _)]
  have := bytesRow_at ⟨b.toArray⟩ (grownCap w b.length 0 5) j (by simpa using hj)
  rw [this]
  simp [u8]
/-- A string converted to bytes. -/
theorem conv_bytes (w : World) (b : J.B) : ∃ c w', (convert 9 37 (encStr b)).run Tryz.prog w = .ok (.slice (some ⟨w.heap.size, 0, none⟩) b.length c) w' ∧ Sl w' NoM (.slice (some ⟨w.heap.size, 0, none⟩) b.length c) b ∧ Below w.heap.size w w' := by
  have hrun := run_bytes_of_string (P := Tryz.prog) w 9 37 5 ⟨b.toArray⟩ Tryz.underlying9 Tryz.underlying37 Tryz.underlying5
  have hsz : (⟨b.toArray⟩ : ByteArray).size = b.length := by simp [ByteArray.size]
  have hcap : (⟨b.toArray⟩ : ByteArray).size ≤ grownCap w (⟨b.toArray⟩ : ByteArray).size 0 5 := by simp [grownCap, Question.cut]
  have hb : Below w.heap.size w (w.drew.alloc (.cells (bytesRow ⟨b.toArray⟩ (grownCap w (⟨b.toArray⟩ : ByteArray).size 0 5)) 5 ((bytesRow ⟨b.toArray⟩ (grownCap w (⟨b.toArray⟩ : ByteArray).size 0 5)).size, (bytesRow ⟨b.toArray⟩ (grownCap w (⟨b.toArray⟩ : ByteArray).size 0 5)).size + 1))) :=
    ((Below.refl _ w).drew).alloc (Nat.le_refl _) _
  have hsl := Sl.of_bytesRow (w := w) b hcap
  rw [hsz] at hrun hsl hb hcap
  exact ⟨_, _, hrun, hsl, hb⟩
section
variable {w w' : World} {q : Nat} {M : Nat → Prop} {m : R.M}
/-- What read answers, and leaves. -/
def RdQ (w : World) (q : Nat) (M : Nat → Prop) (m : R.M) (st : ByteArray) : Option (Nat × J.B) → Ending → World → Prop
  | some r, e, w' => ∃ v, e = .returned (.tuple #[v, .int .i64 (r.1 : Nat), .string ⟨#[48, 48]⟩]) ∧ Sl w' NoM v r.2 ∧ MR w q M { m with next := r.1 + 1, last := r.1 } w'
  | none, e, w' => e = .returned (.tuple #[.slice none 0 0, .int .i64 0, .string st]) ∧ MR w q M { m with next := 0, last := 0 } w'
/-- What holds at the beginning of a round of read. -/
structure MrI (w : World) (q : Nat) (m : R.M) (v : Value) (n la : Nat) (W : World) : Prop where
  g : w.grownBy W (some q)
  row : W.heap[q]? = some (modO m.rel m.size m.there v m.mode n la)
theorem mri_set {W : World} {v : Value} {n la : Nat} (h : MrI w q m v n la W) (a b : Nat) : MrI w q m v a b ((W.setCell ⟨q, 5, none⟩ (.int .i64 (a : Nat))).setCell ⟨q, 6, none⟩ (.int .i64 (b : Nat))) := ⟨grown_set (grown_set h.g 5 _) 6 _, blk_set (blk_set h.row 5 _) 6 _⟩
theorem mri_alloc {W : World} {v : Value} {n la : Nat} (h : MrI w q m v n la W) (o : Obj) : MrI w q m v n la (W.alloc o) :=
  ⟨⟨h.g.os, h.g.tape, h.g.output, Nat.le_trans h.g.size (by simp), fun j hj hn => (Below.heap_alloc W o j (Nat.lt_of_lt_of_le hj h.g.size)).trans (h.g.block j hj hn)⟩, (Below.heap_alloc W o q (Array.getElem?_eq_some_iff.1 h.row).1).trans h.row⟩
theorem mri_below {W W' : World} {v : Value} {n la : Nat} (h : MrI w q m v n la W) (hb : Below W.heap.size W W') : MrI w q m v n la W' :=
  ⟨⟨hb.os.trans h.g.os, hb.tape.trans h.g.tape, hb.output.trans h.g.output, Nat.le_trans h.g.size hb.size, fun j hj hn => (hb.block j (Nat.lt_of_lt_of_le hj h.g.size)).trans (h.g.block j hj hn)⟩, (hb.block q (Array.getElem?_eq_some_iff.1 h.row).1).trans h.row⟩
theorem mread_next_shut (h : MdR w q M m) (hs : chk [52, 55] false 1 3 m.rel m.mode ≠ R.good) :
    Calls Tryz.prog 49 #[.pointer (some ⟨q, 0, none⟩), .bool true, .int .i64 0] w fun e w' => e = .returned (.tuple #[.slice none 0 0, .int .i64 0, .string ⟨(chk [52, 55] false 1 3 m.rel m.mode).toArray⟩]) ∧ w = w' := by
  obtain ⟨v, hrow, hv⟩ := h
  have HMD := Lib.hid (modes_any hrow [52, 55] false 1 3)
  rw [mds_no hs] at HMD
  have hne : ((⟨(chk [52, 55] false 1 3 m.rel m.mode).toArray⟩ : ByteArray).toList == []) = false := bs_ne (y := []) (chk_nil _ _ _ _ _ _)
  generalize (⟨(chk [52, 55] false 1 3 m.rel m.mode).toArray⟩ : ByteArray) = st at HMD hne ⊢
  clear hs hv hrow
  go_enter Tryz.func49, Tryz.ntmps49
  go_wp2_with fail
  refine HMD.out.mono ?_
  rintro e w1 ⟨rfl, rfl⟩
  clear HMD
  go_wp2
  refine bodyPost_ret (results_tmp3 rfl _ _ _) rfl ?_
  exact ⟨rfl, rfl⟩
theorem mread_next_lost (h : MdR w q M m) (hs : chk [52, 55] false 1 3 m.rel m.mode = R.good) (h0 : m.next = 0) :
    Calls Tryz.prog 49 #[.pointer (some ⟨q, 0, none⟩), .bool true, .int .i64 0] w fun e w' => e = .returned (.tuple #[.slice none 0 0, .int .i64 0, .string ⟨#[52, 54]⟩]) ∧ MR w q M { m with last := 0 } w' := by
  obtain ⟨v, hrow, hv⟩ := h
  have HMD := Lib.hid (modes_any hrow [52, 55] false 1 3)
  rw [mds_ok hs (by decide)] at HMD
  have HV := Lib.hid hv
  have HRW := Lib.hid hrow
  have hc := fun j => cell_of_row w q j _ _ _ hrow
  have hz := frozen_row hrow
  have HG := Lib.hid (grown_set (World.grownBy.refl w (some q)) 6 (.int .i64 0))
  have HR := Lib.hid (blk_set hrow 6 (.int .i64 0))
  rw [h0] at hc
  clear hs hv hrow
  go_enter Tryz.func49, Tryz.ntmps49
  go_wp2_with fail
  refine HMD.out.mono ?_
  rintro e w1 ⟨rfl, rfl⟩
  clear HMD
  go_wp2
  refine bodyPost_ret (results_tmp3 rfl _ _ _) rfl ?_
  exact ⟨rfl, HG.out, _, HR.out, HV.out.grown (mod_cell0 HRW.out) HG.out⟩
set_option maxHeartbeats 4000000 in
theorem mread_next_any (h : MdR w q M m) (hl : m.rows.length ≤ 1000000) (hok : R.RowsOk m.rows) (hs : chk [52, 55] false 1 3 m.rel m.mode = R.good) (h0 : m.next ≠ 0) :
    Calls Tryz.prog 49 #[.pointer (some ⟨q, 0, none⟩), .bool true, .int .i64 0] w fun e w' =>
      RdQ w q M m ⟨#[49, 48]⟩ (m.rows.find? (fun r => (fun n : Nat => decide (m.next ≤ n)) r.1)) e w' := by
  obtain ⟨v, hrow, hv⟩ := h
  have HMD := Lib.hid (modes_any hrow [52, 55] false 1 3)
  rw [mds_ok hs (by decide)] at HMD
  have HV := Lib.hid hv
  have HRW := Lib.hid hrow
  have hc := fun j => cell_of_row w q j _ _ _ hrow
  have hz := frozen_row hrow
  have HP := Lib.hid hok.pos
  obtain ⟨A, c, rfl, hlc, hat, _, _⟩ := hv.slice_
  have HA := Lib.hid hat
  have HI0 := Lib.hid (show MrI w q m (.slice A m.rows.length c) 0 0 ((w.setCell ⟨q, 6, none⟩ (.int .i64 0)).setCell ⟨q, 5, none⟩ (.int .i64 0)) from ⟨grown_set (grown_set (World.grownBy.refl w (some q)) 6 _) 5 _, blk_set (blk_set hrow 6 _) 5 _⟩)
  have hn0 : ¬ ((m.next : Int) = 0) := by omega
  clear hs hv hrow hat hok
  go_enter Tryz.func49, Tryz.ntmps49
  go_wp2_with fail
  refine HMD.out.mono ?_
  rintro e w1 ⟨rfl, rfl⟩
  clear HMD
  go_wp2
  clear hc hz
  go_loopw [11] (fun i W => ∃ j : Nat, j ≤ m.rows.length ∧ i = .int .i64 j ∧ Hid (MrI w q m (.slice A m.rows.length c) 0 0 W) ∧ Hid (∀ t (ht : t < m.rows.length), t < j → (fun n : Nat => decide (m.next ≤ n)) m.rows[t].1 = false)) (fun i _ => m.rows.length - (intOf i).toNat)
  case atStart => exact ⟨0, Nat.zero_le _, rfl, HI0, Lib.hid (fun t _ h => absurd h (Nat.not_lt_zero t))⟩
  case round =>
    clear HI0
    obtain ⟨j, hj, rfl, HI, HNO⟩ := hrel
    have hc := fun j => cell_of_row wr q j _ _ _ HI.out.row
    by_cases hlt : j < m.rows.length
    · obtain ⟨g, rfl, hg, hcells⟩ := HA.out (by omega)
      obtain ⟨c0, c1⟩ := rwCells_get m.rows j hlt
      have hno := mod_cell0 HRW.out
      have hgq : g ≠ q := by
        rintro rfl
        exact hno (m.rows[0]'(by omega)).1 (hcells 0 _ (rwCells_get m.rows 0 (by omega)).1)
      have hgb := HI.out.g.block g hg (fun e => hgq (by injection e))
      have hc0 : wr.cell? ⟨g, j * 2, none⟩ = some (nmI m.rows[j].1) := (World.cell?_of_block hgb).trans (hcells _ _ c0)
      have hc1 : wr.cell? ⟨g, j * 2 + 1, none⟩ = some (encStr m.rows[j].2) := (World.cell?_of_block hgb).trans (hcells _ _ c1)
      have HLT := Lib.hid hlt
      have hpos := HP.out _ (List.getElem_mem hlt)
      have hql := (Array.getElem?_eq_some_iff.1 HI.out.row).1
      have HSTEP := Lib.hid (fun (hf : (fun n : Nat => decide (m.next ≤ n)) m.rows[j].1 = false) => (show Hid (∀ t (ht : t < m.rows.length), t < j + 1 → (fun n : Nat => decide (m.next ≤ n)) m.rows[t].1 = false) from Lib.hid (fun t ht htj => by
        by_cases e : t = j
        · subst e; exact hf
        · exact HNO.out t ht (by omega))))
      have HFIND := Lib.hid (fun (hf : (fun n : Nat => decide (m.next ≤ n)) m.rows[j].1 = true) => find_first (f := (fun n : Nat => decide (m.next ≤ n))) hlt HNO.out hf)
      clear hcells c0 c1 hno hgq hgb HNO
      generalize m.rows[j] = x at hc0 hc1 HSTEP HFIND hpos
      by_cases hp : (m.next : Int) ≤ (x.1 : Nat)
      · skip
        have hf := HFIND.out (by simp; omega)
        have HF := Lib.hid hf
        have h1 := mri_alloc HI.out (.cells #[nmI x.1, encStr x.2] 108)
        have hb0 := heap_alloc_new wr (.cells #[nmI x.1, encStr x.2] 108)
        have hne : q ≠ wr.heap.size := by omega
        have hca := fun j => cell_of_row _ q j _ _ _ h1.row
        have hzr := frozen_row h1.row
        have hs5 : MrI w q m (.slice (some ⟨g, 0, none⟩) m.rows.length c) (x.1 + 1) 0 (wr.setCell ⟨q, 5, none⟩ (.int .i64 ((x.1 : Int) + 1))) := ⟨grown_set HI.out.g 5 _, blk_set HI.out.row 5 _⟩
        have hI1 := mri_alloc hs5 (.cells #[nmI x.1, encStr x.2] 108)
        have hbx1 : ((wr.setCell ⟨q, 5, none⟩ (.int .i64 ((x.1 : Int) + 1))).alloc (.cells #[nmI x.1, encStr x.2] 108)).heap[wr.heap.size]? = some (.cells #[nmI x.1, encStr x.2] 108) := by
          have := heap_alloc_new (wr.setCell ⟨q, 5, none⟩ (.int .i64 ((x.1 : Int) + 1))) (.cells #[nmI x.1, encStr x.2] 108)
          rw [show (wr.setCell ⟨q, 5, none⟩ (.int .i64 ((x.1 : Int) + 1))).heap.size = wr.heap.size by simp [World.setCell]] at this
          exact this
        have HI1 := Lib.hid hI1
        have HBX1 := Lib.hid hbx1
        have HNE := Lib.hid hne
        clear HFIND HSTEP hf h1 hb0 hI1 hbx1 hne hs5
        go_upto_region 15 with fail
        generalize ((wr.setCell ⟨q, 5, none⟩ (.int .i64 ((x.1 : Int) + 1))).alloc (.cells #[nmI x.1, encStr x.2] 108)) = wy at HI1 HBX1 ⊢
        have hcy := fun j => cell_of_row wy q j _ _ _ HI1.out.row
        have hzy := frozen_row HI1.out.row
        have hcx := fun j => cell_of_row wy wr.heap.size j _ _ _ HBX1.out
        have HI2 := Lib.hid (show MrI w q m (.slice (some ⟨g, 0, none⟩) m.rows.length c) (x.1 + 1) x.1 (wy.setCell ⟨q, 6, none⟩ (.int .i64 (x.1 : Nat))) from ⟨grown_set HI1.out.g 6 _, blk_set HI1.out.row 6 _⟩)
        have hbx2 : (wy.setCell ⟨q, 6, none⟩ (.int .i64 (x.1 : Nat))).heap[wr.heap.size]? = some (.cells #[nmI x.1, encStr x.2] 108) := (Below.heap_setCell _ _ _ wr.heap.size HNE.out.symm).trans HBX1.out
        have HBX2 := Lib.hid hbx2
        clear hca hzr hbx2 hc hc0 hc1
        go_upto_region 16 with fail
        generalize wy.setCell ⟨q, 6, none⟩ (.int .i64 (x.1 : Nat)) = wz at HI2 HBX2 ⊢
        clear hcy hzy hcx
        refine wp_region_pm 6 (.rd 0 (.rd 1 (.rd 3 (.rd 4 (.wr 2 (.wr 5 .fin)))))) (fun w' => w'.cell? ⟨wr.heap.size, 0, none⟩ = some (nmI x.1) ∧ w'.cell? ⟨wr.heap.size, 1, none⟩ = some (encStr x.2)) (by kernel_rfl) (by kernel_rfl) (fun c a d v w h => by cases d <;> exact h) ⟨(cell_of_row wz wr.heap.size 0 _ _ _ HBX2.out).trans rfl, (cell_of_row wz wr.heap.size 1 _ _ _ HBX2.out).trans rfl⟩ ?_
        repeat
          refine wpPm_read (v := ?_) (by rfl) (by rfl) (fun w' hS => ?_) (fun K hK => ?_)
          rotate_left
          · have hx0 := hS.1
            have hx1 := hS.2
            clear hS
            go_simp
            try with_reducible rfl
          go_simp
          refine hK _ ?_
          clear hK K
        refine wpPm_write (by rfl) (fun K hK => ?_)
        go_simp
        obtain ⟨c2, w2, hrun, hsl2, hb2⟩ := conv_bytes wz.drew x.2
        rw [hrun]
        go_simp
        have hl2 := (Array.getElem?_eq_some_iff.1 HBX2.out).1
        have HS2 := Lib.hid hsl2
        have HI3 := Lib.hid (mri_below HI2.out (((Below.refl _ wz).drew).trans hb2))
        have hxa : ∀ j, w2.cell? ⟨wr.heap.size, j, none⟩ = wz.cell? ⟨wr.heap.size, j, none⟩ := fun j => hb2.cell (p := ⟨wr.heap.size, j, none⟩) hl2
        have hr0 := (hxa 0).trans ((cell_of_row wz wr.heap.size 0 _ _ _ HBX2.out).trans rfl)
        have hr1 := (hxa 1).trans ((cell_of_row wz wr.heap.size 1 _ _ _ HBX2.out).trans rfl)
        refine hK.out _ _ (fun w' => w'.cell? ⟨wr.heap.size, 0, none⟩ = some (nmI x.1) ∧ w'.cell? ⟨wr.heap.size, 1, none⟩ = some (encStr x.2)) (fun _ h => h) ⟨hr0, hr1⟩ ?_
        clear hK K hrun hsl2 hb2 hl2 hxa
        refine wpPm_write (by rfl) (fun K hK => ?_)
        go_simp
        refine hK.out _ _ (fun w' => w'.cell? ⟨wr.heap.size, 0, none⟩ = some (nmI x.1) ∧ w'.cell? ⟨wr.heap.size, 1, none⟩ = some (encStr x.2)) (fun _ h => h) ⟨hr0, hr1⟩ ?_
        clear hK K hr0 hr1
        show wpList _ _ _ _ _ _
        go_wp2
        refine bodyPost_ret (results_tmp3 rfl _ _ _) rfl ?_
        rw [HF.out]
        exact ⟨_, rfl, HS2.out, HI3.out.g, _, HI3.out.row, HV.out.grown (mod_cell0 HRW.out) HI3.out.g⟩
      · have HNX := HSTEP.out (by simp; omega)
        have HAL := Lib.hid (mri_alloc HI.out (.cells #[nmI x.1, encStr x.2] 108))
        clear HFIND HSTEP HI
        go_wp2_with fail
        go_roundw
        case rel => exact ⟨j + 1, HLT.out, by go_num, HAL, HNX⟩
        case measure => have := HLT.out; simp [intOf]; omega
    · obtain rfl : j = m.rows.length := by omega
      have hf := find_none (f := (fun n : Nat => decide (m.next ≤ n))) (fun t ht => HNO.out t ht ht)
      have HF := Lib.hid hf
      have HX := Lib.hid HI.out
      clear HI HNO hf
      go_wp2
      refine bodyPost_ret (results_tmp3 rfl _ _ _) rfl ?_
      rw [HF.out]
      exact ⟨rfl, HX.out.g, _, HX.out.row, HV.out.grown (mod_cell0 HRW.out) HX.out.g⟩
theorem mread_num_shut (h : MdR w q M m) (k : Int) (hs : chk [52, 55] true 1 3 m.rel m.mode ≠ R.good) :
    Calls Tryz.prog 49 #[.pointer (some ⟨q, 0, none⟩), .bool false, .int .i64 k] w fun e w' => e = .returned (.tuple #[.slice none 0 0, .int .i64 0, .string ⟨(chk [52, 55] true 1 3 m.rel m.mode).toArray⟩]) ∧ w = w' := by
  obtain ⟨v, hrow, hv⟩ := h
  have HMD := Lib.hid (modes_any hrow [52, 55] true 1 3)
  rw [mds_no hs] at HMD
  have hne : ((⟨(chk [52, 55] true 1 3 m.rel m.mode).toArray⟩ : ByteArray).toList == []) = false := bs_ne (y := []) (chk_nil _ _ _ _ _ _)
  generalize (⟨(chk [52, 55] true 1 3 m.rel m.mode).toArray⟩ : ByteArray) = st at HMD hne ⊢
  clear hs hv hrow
  go_enter Tryz.func49, Tryz.ntmps49
  go_wp2_with fail
  refine HMD.out.mono ?_
  rintro e w1 ⟨rfl, rfl⟩
  clear HMD
  go_wp2
  refine bodyPost_ret (results_tmp3 rfl _ _ _) rfl ?_
  exact ⟨rfl, rfl⟩
set_option maxHeartbeats 4000000 in
theorem mread_num_any (h : MdR w q M m) (k : Int) (hl : m.rows.length ≤ 1000000) (hok : R.RowsOk m.rows) (hs : chk [52, 55] true 1 3 m.rel m.mode = R.good) :
    Calls Tryz.prog 49 #[.pointer (some ⟨q, 0, none⟩), .bool false, .int .i64 k] w fun e w' =>
      RdQ w q M m ⟨#[50, 51]⟩ (m.rows.find? (fun r => (fun n : Nat => decide ((n : Int) = k)) r.1)) e w' := by
  obtain ⟨v, hrow, hv⟩ := h
  have HMD := Lib.hid (modes_any hrow [52, 55] true 1 3)
  rw [mds_ok hs (by decide)] at HMD
  have HV := Lib.hid hv
  have HRW := Lib.hid hrow
  have hc := fun j => cell_of_row w q j _ _ _ hrow
  have hz := frozen_row hrow
  have HP := Lib.hid hok.pos
  obtain ⟨A, c, rfl, hlc, hat, _, _⟩ := hv.slice_
  have HA := Lib.hid hat
  have HI0 := Lib.hid (show MrI w q m (.slice A m.rows.length c) 0 0 ((w.setCell ⟨q, 6, none⟩ (.int .i64 0)).setCell ⟨q, 5, none⟩ (.int .i64 0)) from ⟨grown_set (grown_set (World.grownBy.refl w (some q)) 6 _) 5 _, blk_set (blk_set hrow 6 _) 5 _⟩)
  skip
  clear hs hv hrow hat hok
  go_enter Tryz.func49, Tryz.ntmps49
  go_wp2_with fail
  refine HMD.out.mono ?_
  rintro e w1 ⟨rfl, rfl⟩
  clear HMD
  go_wp2
  clear hc hz
  go_loopw [11] (fun i W => ∃ j : Nat, j ≤ m.rows.length ∧ i = .int .i64 j ∧ Hid (MrI w q m (.slice A m.rows.length c) 0 0 W) ∧ Hid (∀ t (ht : t < m.rows.length), t < j → (fun n : Nat => decide ((n : Int) = k)) m.rows[t].1 = false)) (fun i _ => m.rows.length - (intOf i).toNat)
  case atStart => exact ⟨0, Nat.zero_le _, rfl, HI0, Lib.hid (fun t _ h => absurd h (Nat.not_lt_zero t))⟩
  case round =>
    clear HI0
    obtain ⟨j, hj, rfl, HI, HNO⟩ := hrel
    have hc := fun j => cell_of_row wr q j _ _ _ HI.out.row
    by_cases hlt : j < m.rows.length
    · obtain ⟨g, rfl, hg, hcells⟩ := HA.out (by omega)
      obtain ⟨c0, c1⟩ := rwCells_get m.rows j hlt
      have hno := mod_cell0 HRW.out
      have hgq : g ≠ q := by
        rintro rfl
        exact hno (m.rows[0]'(by omega)).1 (hcells 0 _ (rwCells_get m.rows 0 (by omega)).1)
      have hgb := HI.out.g.block g hg (fun e => hgq (by injection e))
      have hc0 : wr.cell? ⟨g, j * 2, none⟩ = some (nmI m.rows[j].1) := (World.cell?_of_block hgb).trans (hcells _ _ c0)
      have hc1 : wr.cell? ⟨g, j * 2 + 1, none⟩ = some (encStr m.rows[j].2) := (World.cell?_of_block hgb).trans (hcells _ _ c1)
      have HLT := Lib.hid hlt
      have hpos := HP.out _ (List.getElem_mem hlt)
      have hql := (Array.getElem?_eq_some_iff.1 HI.out.row).1
      have HSTEP := Lib.hid (fun (hf : (fun n : Nat => decide ((n : Int) = k)) m.rows[j].1 = false) => (show Hid (∀ t (ht : t < m.rows.length), t < j + 1 → (fun n : Nat => decide ((n : Int) = k)) m.rows[t].1 = false) from Lib.hid (fun t ht htj => by
        by_cases e : t = j
        · subst e; exact hf
        · exact HNO.out t ht (by omega))))
      have HFIND := Lib.hid (fun (hf : (fun n : Nat => decide ((n : Int) = k)) m.rows[j].1 = true) => find_first (f := (fun n : Nat => decide ((n : Int) = k))) hlt HNO.out hf)
      clear hcells c0 c1 hno hgq hgb HNO
      generalize m.rows[j] = x at hc0 hc1 HSTEP HFIND hpos
      by_cases hp : (x.1 : Int) = k
      · subst hp
        have hf := HFIND.out (by simp)
        have HF := Lib.hid hf
        have h1 := mri_alloc HI.out (.cells #[nmI x.1, encStr x.2] 108)
        have hb0 := heap_alloc_new wr (.cells #[nmI x.1, encStr x.2] 108)
        have hne : q ≠ wr.heap.size := by omega
        have hca := fun j => cell_of_row _ q j _ _ _ h1.row
        have hzr := frozen_row h1.row
        have hs5 : MrI w q m (.slice (some ⟨g, 0, none⟩) m.rows.length c) (x.1 + 1) 0 (wr.setCell ⟨q, 5, none⟩ (.int .i64 ((x.1 : Int) + 1))) := ⟨grown_set HI.out.g 5 _, blk_set HI.out.row 5 _⟩
        have hI1 := mri_alloc hs5 (.cells #[nmI x.1, encStr x.2] 108)
        have hbx1 : ((wr.setCell ⟨q, 5, none⟩ (.int .i64 ((x.1 : Int) + 1))).alloc (.cells #[nmI x.1, encStr x.2] 108)).heap[wr.heap.size]? = some (.cells #[nmI x.1, encStr x.2] 108) := by
          have := heap_alloc_new (wr.setCell ⟨q, 5, none⟩ (.int .i64 ((x.1 : Int) + 1))) (.cells #[nmI x.1, encStr x.2] 108)
          rw [show (wr.setCell ⟨q, 5, none⟩ (.int .i64 ((x.1 : Int) + 1))).heap.size = wr.heap.size by simp [World.setCell]] at this
          exact this
        have HI1 := Lib.hid hI1
        have HBX1 := Lib.hid hbx1
        have HNE := Lib.hid hne
        clear HFIND HSTEP hf h1 hb0 hI1 hbx1 hne hs5
        go_upto_region 15 with fail
        generalize ((wr.setCell ⟨q, 5, none⟩ (.int .i64 ((x.1 : Int) + 1))).alloc (.cells #[nmI x.1, encStr x.2] 108)) = wy at HI1 HBX1 ⊢
        have hcy := fun j => cell_of_row wy q j _ _ _ HI1.out.row
        have hzy := frozen_row HI1.out.row
        have hcx := fun j => cell_of_row wy wr.heap.size j _ _ _ HBX1.out
        have HI2 := Lib.hid (show MrI w q m (.slice (some ⟨g, 0, none⟩) m.rows.length c) (x.1 + 1) x.1 (wy.setCell ⟨q, 6, none⟩ (.int .i64 (x.1 : Nat))) from ⟨grown_set HI1.out.g 6 _, blk_set HI1.out.row 6 _⟩)
        have hbx2 : (wy.setCell ⟨q, 6, none⟩ (.int .i64 (x.1 : Nat))).heap[wr.heap.size]? = some (.cells #[nmI x.1, encStr x.2] 108) := (Below.heap_setCell _ _ _ wr.heap.size HNE.out.symm).trans HBX1.out
        have HBX2 := Lib.hid hbx2
        clear hca hzr hbx2 hc hc0 hc1
        go_upto_region 16 with fail
        generalize wy.setCell ⟨q, 6, none⟩ (.int .i64 (x.1 : Nat)) = wz at HI2 HBX2 ⊢
        clear hcy hzy hcx
        refine wp_region_pm 6 (.rd 0 (.rd 1 (.rd 3 (.rd 4 (.wr 2 (.wr 5 .fin)))))) (fun w' => w'.cell? ⟨wr.heap.size, 0, none⟩ = some (nmI x.1) ∧ w'.cell? ⟨wr.heap.size, 1, none⟩ = some (encStr x.2)) (by kernel_rfl) (by kernel_rfl) (fun c a d v w h => by cases d <;> exact h) ⟨(cell_of_row wz wr.heap.size 0 _ _ _ HBX2.out).trans rfl, (cell_of_row wz wr.heap.size 1 _ _ _ HBX2.out).trans rfl⟩ ?_
        repeat
          refine wpPm_read (v := ?_) (by rfl) (by rfl) (fun w' hS => ?_) (fun K hK => ?_)
          rotate_left
          · have hx0 := hS.1
            have hx1 := hS.2
            clear hS
            go_simp
            try with_reducible rfl
          go_simp
          refine hK _ ?_
          clear hK K
        refine wpPm_write (by rfl) (fun K hK => ?_)
        go_simp
        obtain ⟨c2, w2, hrun, hsl2, hb2⟩ := conv_bytes wz.drew x.2
        rw [hrun]
        go_simp
        have hl2 := (Array.getElem?_eq_some_iff.1 HBX2.out).1
        have HS2 := Lib.hid hsl2
        have HI3 := Lib.hid (mri_below HI2.out (((Below.refl _ wz).drew).trans hb2))
        have hxa : ∀ j, w2.cell? ⟨wr.heap.size, j, none⟩ = wz.cell? ⟨wr.heap.size, j, none⟩ := fun j => hb2.cell (p := ⟨wr.heap.size, j, none⟩) hl2
        have hr0 := (hxa 0).trans ((cell_of_row wz wr.heap.size 0 _ _ _ HBX2.out).trans rfl)
        have hr1 := (hxa 1).trans ((cell_of_row wz wr.heap.size 1 _ _ _ HBX2.out).trans rfl)
        refine hK.out _ _ (fun w' => w'.cell? ⟨wr.heap.size, 0, none⟩ = some (nmI x.1) ∧ w'.cell? ⟨wr.heap.size, 1, none⟩ = some (encStr x.2)) (fun _ h => h) ⟨hr0, hr1⟩ ?_
        clear hK K hrun hsl2 hb2 hl2 hxa
        refine wpPm_write (by rfl) (fun K hK => ?_)
        go_simp
        refine hK.out _ _ (fun w' => w'.cell? ⟨wr.heap.size, 0, none⟩ = some (nmI x.1) ∧ w'.cell? ⟨wr.heap.size, 1, none⟩ = some (encStr x.2)) (fun _ h => h) ⟨hr0, hr1⟩ ?_
        clear hK K hr0 hr1
        show wpList _ _ _ _ _ _
        go_wp2
        refine bodyPost_ret (results_tmp3 rfl _ _ _) rfl ?_
        rw [HF.out]
        exact ⟨_, rfl, HS2.out, HI3.out.g, _, HI3.out.row, HV.out.grown (mod_cell0 HRW.out) HI3.out.g⟩
      · have HNX := HSTEP.out (by simpa using hp)
        have HAL := Lib.hid (mri_alloc HI.out (.cells #[nmI x.1, encStr x.2] 108))
        clear HFIND HSTEP HI
        go_wp2_with fail
        go_roundw
        case rel => exact ⟨j + 1, HLT.out, by go_num, HAL, HNX⟩
        case measure => have := HLT.out; simp [intOf]; omega
    · obtain rfl : j = m.rows.length := by omega
      have hf := find_none (f := (fun n : Nat => decide ((n : Int) = k))) (fun t ht => HNO.out t ht ht)
      have HF := Lib.hid hf
      have HX := Lib.hid HI.out
      clear HI HNO hf
      go_wp2
      refine bodyPost_ret (results_tmp3 rfl _ _ _) rfl ?_
      rw [HF.out]
      exact ⟨rfl, HX.out.g, _, HX.out.row, HV.out.grown (mod_cell0 HRW.out) HX.out.g⟩
end
end Go.Proofs.YtjbepnkchoaipaaGreat
