import Derived.Test.YtjbepnkchoaipaaGreatM44
set_option linter.unusedVariables false
set_option linter.unusedSimpArgs false
/- Law 31: the law's model: write. -/
namespace Go.Proofs.YtjbepnkchoaipaaGreat
open Go.RowKit Go.Lib Go.Maps Go.WideMaps Go.Sort
set_option maxRecDepth 100000
theorem look_at {l : R.Rows} (hok : R.RowsOk l) {n j : Nat} (hj : j < l.length) (h : l[j].1 = n) : R.look l n = some l[j].2 := by
  rw [← h]; exact R.look_of_mem hok (List.getElem_mem hj)
section
variable {w w' : World} {q : Nat} {M : Nat → Prop} {m : R.M}
/-- The model behind what put has laid. -/
theorem put_mr {v v' : Value} {n : Nat} {b : J.B} {W : World} (hM : ∀ k, M k → k < w.heap.size) (hrow : w.heap[q]? = some (modO m.rel m.size m.there v m.mode m.next m.last)) (hown : W.ownsRow w.heap.size 108 2 v' (R.put m.rows n b).length (rwCells (R.put m.rows n b))) (hb : Below (w.setCell ⟨q, 6, none⟩ (.int .i64 0)).heap.size (w.setCell ⟨q, 6, none⟩ (.int .i64 0)) W) :
    MR w q M { m with last := 0, rows := R.put m.rows n b } (W.setCell ⟨q, 3, none⟩ v') ∧ (∀ j, W.cell? ⟨q, j, none⟩ = (#[.bool m.rel, .int .i64 (m.size : Nat), .bool m.there, v, .int .u8 (m.mode : Nat), .int .i64 (m.next : Nat), .int .i64 0] : Array Value)[j]?) ∧ ∀ j, W.frozen? ⟨q, j, none⟩ = false := by
  have h6 : MrI w q m v m.next 0 (w.setCell ⟨q, 6, none⟩ (.int .i64 0)) := ⟨grown_set (World.grownBy.refl w (some q)) 6 _, blk_set hrow 6 _⟩
  have h7 := mri_below h6 hb
  have hr := own_rws (M := M) hown hM
  have hg := grown_set h7.g 3 v'
  refine ⟨⟨hg, v', blk_set h7.row 3 v', ?_⟩, fun j => cell_of_row W q j _ _ _ h7.row, frozen_row h7.row⟩
  exact hr.grown (mod_cell0 h7.row) (grown_set (World.grownBy.refl W (some q)) 3 v')
theorem last_mr {v : Value} (hrow : w.heap[q]? = some (modO m.rel m.size m.there v m.mode m.next m.last)) (hv : Rws w M v m.rows) : MR w q M { m with last := 0 } (w.setCell ⟨q, 6, none⟩ (.int .i64 0)) :=
  ⟨grown_set (World.grownBy.refl w (some q)) 6 _, v, blk_set hrow 6 _, hv.grown (mod_cell0 hrow) (grown_set (World.grownBy.refl w (some q)) 6 _)⟩
set_option maxHeartbeats 4000000 in
theorem mwrite_any (h : MdR w q M m) (hM : ∀ k, M k → k < w.heap.size) (hl : m.rows.length ≤ 1000000) (hok : R.RowsOk m.rows) (k : Int) (hk : k ≠ -9) (b : J.B) (hbl : b.length ≤ 1000000) :
    Calls Tryz.prog 50 #[.pointer (some ⟨q, 0, none⟩), .int .i64 k, .string ⟨b.toArray⟩] w fun e w' => (∃ z : Int, e = .returned (.tuple #[.int .i64 z, .string ⟨(m.write k b).2.toArray⟩])) ∧ MR w q M (m.write k b).1 w' := by
  have HM := Lib.hid h
  obtain ⟨v, hrow, hv⟩ := h
  have HMD := Lib.hid (modes_any hrow [52, 56] true 2 3)
  have HRW := Lib.hid hrow
  have hk1 : (k == -9) = false := by simpa using hk
  have hk2 : (k != -9) = true := by simpa using hk
  have hsz : (⟨b.toArray⟩ : ByteArray).size = b.length := enc_size b
  obtain ⟨Wm, hW⟩ : ∃ x, x = m.write k b := ⟨_, rfl⟩
  rw [← hW]
  unfold R.M.write at hW
  by_cases hs : chk [52, 56] true 2 3 m.rel m.mode = R.good
  · rw [if_neg (Decidable.not_not.2 hs)] at hW
    rw [mds_ok hs (by decide)] at HMD
    have HL := Lib.hid (last_mr hrow hv)
    have hc := fun j => cell_of_row w q j _ _ _ hrow
    have hz := frozen_row hrow
    by_cases hb : 0 < b.length ∧ b.length ≤ m.size
    · rw [if_neg (Decidable.not_not.2 hb)] at hW
      have hb1 : ((b.length : Int) == 0) = false := beq_eq_false_iff_ne.2 (by omega)
      have hb2 : ¬ (m.size : Int) < (b.length : Nat) := by omega
      by_cases hr : k < 1 ∨ 65536 < k
      · rw [if_pos hr] at hW
        have hr1 : (decide (k < 1) || decide (65536 < k)) = true := by simpa using hr
        clear hv hrow hs
        by_cases hr2 : k < 1
        · have HWH := Lib.hid hW
          clear hW
          go_enter Tryz.func50, Tryz.ntmps50
          go_wp2_with fail
          refine HMD.out.mono ?_
          rintro e w1 ⟨rfl, rfl⟩
          clear HMD
          go_wp2
          go_ret2
          rw [HWH.out]
          exact ⟨⟨_, rfl⟩, HL.out⟩
        · have hr3 : 65536 < k := by omega
          have HWH := Lib.hid hW
          clear hW
          go_enter Tryz.func50, Tryz.ntmps50
          go_wp2_with fail
          refine HMD.out.mono ?_
          rintro e w1 ⟨rfl, rfl⟩
          clear HMD
          go_wp2
          go_ret2
          rw [HWH.out]
          exact ⟨⟨_, rfl⟩, HL.out⟩
      · rw [if_neg hr] at hW
        have hr1 : ¬ k < 1 := by omega
        have hr2 : ¬ 65536 < k := by omega
        obtain ⟨n, rfl⟩ : ∃ n : Nat, k = n := ⟨k.toNat, by omega⟩
        rw [Int.toNat_natCast] at hW
        have h6 : MrI w q m v m.next 0 (w.setCell ⟨q, 6, none⟩ (.int .i64 0)) := ⟨grown_set (World.grownBy.refl w (some q)) 6 _, blk_set hrow 6 _⟩
        have hv6 := hv.grown (mod_cell0 hrow) h6.g
        have HAT := Lib.hid (mat_any h6.row m.rows hv6 hl (n : Nat))
        have HPU := Lib.hid (mput_any h6.row m.rows hv6 hl hok n b)
        have HOK := Lib.hid hok
        have HMM := Lib.hid hM
        clear hv hrow hs h6 hv6 hok
        have HWH := Lib.hid hW
        clear hW
        go_enter Tryz.func50, Tryz.ntmps50
        go_wp2_with fail
        refine HMD.out.mono ?_
        rintro e w1 ⟨rfl, rfl⟩
        clear HMD
        go_wp2_with fail
        refine HAT.out.mono ?_
        rintro e w1 ⟨⟨z, rfl, hz1⟩, rfl⟩
        rcases hz1 with ⟨j, hj, rfl, hje⟩ | ⟨rfl, hno⟩
        · have HLK := look_at HOK.out hj (by omega : m.rows[j].1 = n)
          rw [HLK] at HWH
          clear HLK
          have hj0 : (0 : Int) ≤ (j : Nat) := by omega
          clear HAT HPU hje
          go_wp2
          go_ret2
          rw [HWH.out]
          exact ⟨⟨_, rfl⟩, HL.out⟩
        · have HLK := R.look_none_of (rows := m.rows) (n := n) (fun r hr e => hno r hr (by omega))
          rw [HLK] at HWH
          clear HLK
          clear HAT hno
          go_wp2_with fail
          refine HPU.out.mono ?_
          rintro e w2 ⟨v', rfl, hown, hbw⟩
          have hszw : (w.setCell ⟨q, 6, none⟩ (.int .i64 0)).heap.size = w.heap.size := by simp [World.setCell]
          have hown2 := hown
          rw [hszw] at hown2
          obtain ⟨hmr, hc2, hz2⟩ := put_mr HMM.out HRW.out hown2 hbw
          obtain ⟨A', c', rfl⟩ := own_slice_len hown
          have HMR := Lib.hid hmr
          clear hown hown2 hbw hmr HPU hc hz hszw
          go_wp2
          go_ret2
          rw [HWH.out]
          exact ⟨⟨_, rfl⟩, HMR.out⟩
    · rw [if_pos hb] at hW
      clear hv hrow hs
      by_cases hb1 : b.length = 0
      · have hb2 : ((b.length : Int) == 0) = true := by simp [hb1]
        have HWH := Lib.hid hW
        clear hW
        go_enter Tryz.func50, Tryz.ntmps50
        go_wp2_with fail
        refine HMD.out.mono ?_
        rintro e w1 ⟨rfl, rfl⟩
        clear HMD
        go_wp2
        go_ret2
        rw [HWH.out]
        exact ⟨⟨_, rfl⟩, HL.out⟩
      · have hb2 : ((b.length : Int) == 0) = false := beq_eq_false_iff_ne.2 (by omega)
        have hb3 : (m.size : Int) < (b.length : Nat) := by omega
        have HWH := Lib.hid hW
        clear hW
        go_enter Tryz.func50, Tryz.ntmps50
        go_wp2_with fail
        refine HMD.out.mono ?_
        rintro e w1 ⟨rfl, rfl⟩
        clear HMD
        go_wp2
        go_ret2
        rw [HWH.out]
        exact ⟨⟨_, rfl⟩, HL.out⟩
  · rw [if_pos hs] at hW
    rw [mds_no hs] at HMD
    have hne : ((⟨(chk [52, 56] true 2 3 m.rel m.mode).toArray⟩ : ByteArray).toList == []) = false := bs_ne (y := []) (chk_nil _ _ _ _ _ _)
    generalize hst : (⟨(chk [52, 56] true 2 3 m.rel m.mode).toArray⟩ : ByteArray) = st at HMD hne
    have HST := Lib.hid hst
    clear hst
    clear hs hv hrow hok
    have HWH := Lib.hid hW
    clear hW
    go_enter Tryz.func50, Tryz.ntmps50
    go_wp2_with fail
    refine HMD.out.mono ?_
    rintro e w1 ⟨rfl, rfl⟩
    clear HMD
    go_wp2
    go_ret2
    rw [HWH.out, ← HST.out]
    exact ⟨⟨_, rfl⟩, mr_same HM.out⟩
end
end Go.Proofs.YtjbepnkchoaipaaGreat
/- Law 31: the law's model: append. -/
namespace Go.Proofs.YtjbepnkchoaipaaGreat
open Go.RowKit Go.Lib Go.Maps Go.WideMaps Go.Sort
set_option maxRecDepth 100000
theorem lastN_eq {l : R.Rows} (h : 0 < l.length) : (l[l.length - 1]'(by omega)).1 = R.lastN l := by
  unfold R.lastN
  rw [List.getLast?_eq_getElem?, List.getElem?_eq_getElem (by omega)]
theorem lastN_max {l : R.Rows} (hok : R.RowsOk l) : ∀ r ∈ l, r.1 ≤ R.lastN l := by
  intro r hr
  obtain ⟨j, hj, rfl⟩ := List.getElem_of_mem hr
  rw [← lastN_eq (by omega)]
  rcases Nat.lt_or_ge j (l.length - 1) with h | h
  · exact Nat.le_of_lt (List.pairwise_iff_getElem.1 hok.asc j (l.length - 1) hj (by omega) h)
  · rw [show l[j] = l[l.length - 1]'(by omega) from by congr 1; omega]; exact Nat.le_refl _
theorem lastN_le {l : R.Rows} (hok : R.RowsOk l) : R.lastN l ≤ 65536 := by
  rcases Nat.eq_zero_or_pos l.length with h | h
  · rw [List.eq_nil_of_length_eq_zero h]; decide
  · rw [← lastN_eq h]; exact (hok.pos _ (List.getElem_mem _)).2
section
variable {w w' : World} {q : Nat} {M : Nat → Prop} {m : R.M}
theorem mri_drew {W : World} {v : Value} {n la : Nat} (h : MrI w q m v n la W) : MrI w q m v n la W.drew := mri_below h ((Below.refl _ _).drew)
theorem mri_mr {W : World} {v : Value} {n la : Nat} (h : MrI w q m v n la W) (hno : ∀ k, w.cell? ⟨q, 0, none⟩ ≠ some (nmI k)) (hv : Rws w M v m.rows) : MR w q M { m with next := n, last := la } W := ⟨h.g, v, h.row, hv.grown hno h.g⟩
/-- The model behind what put has laid, from any world of it. -/
theorem put_mr' {v v' : Value} {n nx la : Nat} {b : J.B} {W0 W : World} (hM : ∀ k, M k → k < w.heap.size) (h6 : MrI w q m v nx la W0) (hown : W.ownsRow W0.heap.size 108 2 v' (R.put m.rows n b).length (rwCells (R.put m.rows n b))) (hb : Below W0.heap.size W0 W) :
    MR w q M { m with next := nx, last := la, rows := R.put m.rows n b } (W.setCell ⟨q, 3, none⟩ v') ∧ (∀ j, W.cell? ⟨q, j, none⟩ = (#[.bool m.rel, .int .i64 (m.size : Nat), .bool m.there, v, .int .u8 (m.mode : Nat), .int .i64 (nx : Nat), .int .i64 (la : Nat)] : Array Value)[j]?) ∧ ∀ j, W.frozen? ⟨q, j, none⟩ = false := by
  have h7 := mri_below h6 hb
  have hr := own_rws (M := M) hown (fun k hk => Nat.lt_of_lt_of_le (hM k hk) h6.g.size)
  have hg := grown_set h7.g 3 v'
  refine ⟨⟨hg, v', blk_set h7.row 3 v', ?_⟩, fun j => cell_of_row W q j _ _ _ h7.row, frozen_row h7.row⟩
  exact hr.grown (mod_cell0 h7.row) (grown_set (World.grownBy.refl W (some q)) 3 v')
set_option maxHeartbeats 1000000 in
theorem mwrite_app (h : MdR w q M m) (hM : ∀ k, M k → k < w.heap.size) (hl : m.rows.length ≤ 1000000) (hok : R.RowsOk m.rows) (b : J.B) (hbl : b.length ≤ 1000000) :
    Calls Tryz.prog 50 #[.pointer (some ⟨q, 0, none⟩), .int .i64 (-9), .string ⟨b.toArray⟩] w fun e w' => e = .returned (.tuple #[.int .i64 ((m.append b).2.1 : Nat), .string ⟨(m.append b).2.2.toArray⟩]) ∧ MR w q M (m.append b).1 w' := by
  have HM := Lib.hid h
  obtain ⟨v, hrow, hv⟩ := h
  have HMD := Lib.hid (modes_any hrow [52, 56] false 2 4)
  obtain ⟨A, c, rfl, hlc, hat, _, _⟩ := hv.slice_
  have HA := Lib.hid hat
  have HRW := Lib.hid hrow
  have hsz : (⟨b.toArray⟩ : ByteArray).size = b.length := enc_size b
  obtain ⟨Wm, hW⟩ : ∃ x, x = m.append b := ⟨_, rfl⟩
  rw [← hW]
  unfold R.M.append at hW
  by_cases hs : chk [52, 56] false 2 4 m.rel m.mode = R.good
  · rw [if_neg (Decidable.not_not.2 hs)] at hW
    rw [mds_ok hs (by decide)] at HMD
    have hc := fun j => cell_of_row w q j _ _ _ hrow
    have hz := frozen_row hrow
    have HV := Lib.hid hv
    have HOK := Lib.hid hok
    have HMM := Lib.hid hM
    have HMX := Lib.hid (lastN_max hok)
    have HI0 := Lib.hid (show MrI w q m (.slice A m.rows.length c) m.next 0 (w.setCell ⟨q, 6, none⟩ (.int .i64 0)) from ⟨grown_set (World.grownBy.refl w (some q)) 6 _, blk_set hrow 6 _⟩)
    have hlN := lastN_le hok
    obtain ⟨N, hN⟩ : ∃ N, N = R.lastN m.rows + 1 := ⟨_, rfl⟩
    rw [← hN] at hW
    have hNI : (R.lastN m.rows : Int) + 1 = (N : Int) := by omega
    have HNI := Lib.hid hNI
    have HNN := Lib.hid hN
    have hNl : N ≤ 65537 := by omega
    have hN1 : 1 ≤ N := by omega
    clear hN hNI
    clear hv hs hok hat
    by_cases hn0 : 0 < m.rows.length
    · have hn1 : (0 : Int) < (m.rows.length : Nat) := by omega
      have hlast := lastN_eq hn0
      obtain ⟨g, rfl, hg, hcells⟩ := HA.out hn0
      obtain ⟨c0, _⟩ := rwCells_get m.rows (m.rows.length - 1) (by omega)
      have hno := mod_cell0 HRW.out
      have hgq : g ≠ q := by
        rintro rfl
        exact hno (m.rows[0]'(by omega)).1 (hcells 0 _ (rwCells_get m.rows 0 (by omega)).1)
      have hgb := HI0.out.g.block g hg (fun e => hgq (by injection e))
      have hc0 : (w.setCell ⟨q, 6, none⟩ (.int .i64 0)).cell? ⟨g, (m.rows.length - 1) * 2, none⟩ = some (nmI (R.lastN m.rows)) := (World.cell?_of_block hgb).trans ((hcells _ _ c0).trans (by rw [hlast]))
      have HC0 := Lib.hid hc0
      have hzz : ((m.rows.length - 1 : Nat) : Int) = (m.rows.length : Int) - 1 := by omega
      clear hcells c0 hno hgq hgb hc0 hlast hrow
      have HWX := Lib.hid hW
      clear hW
      go_enter Tryz.func50, Tryz.ntmps50
      go_wp2_with fail
      refine HMD.out.mono ?_
      rintro e w1 ⟨rfl, rfl⟩
      clear HMD
      go_upto_region 11 with fail
      have HI := Lib.hid (mri_drew HI0.out)
      generalize hW6 : w.setCell ⟨q, 6, none⟩ (.int .i64 0) = W at HI HC0 ⊢
      clear HI0 hc hz hW6
      have hc := fun j => cell_of_row W.drew q j _ _ _ HI.out.row
      have hc0 := (show W.drew.cell? ⟨g, (m.rows.length - 1) * 2, none⟩ = some (nmI (R.lastN m.rows)) from HC0.out)
      refine wp_region_pm 10 (.rd 0 (.rd 1 (.rd 2 (.rd 3 (.rd 4 (.rd 5 (.rd 6 (.rd 7 (.rd 8 (.rd 9 .fin)))))))))) (fun w' => w' = W.drew) (by kernel_rfl) (by kernel_rfl) (fun c a d v w h => by cases d <;> exact h) rfl ?_
      repeat
        refine wpPm_read (v := ?_) (by rfl) (by rfl) (fun w' hS => ?_) (fun K hK => ?_)
        rotate_left
        · have hx := hS
          clear hS
          subst hx
          go_simp
          try with_reducible rfl
        go_simp
        refine hK _ ?_
        clear hK K
      show wpList _ _ _ _ _ _
      generalize W.drew = W at HI hc hc0 ⊢
      have hz := frozen_row HI.out.row
      go_upto_region 12 with fail
      rw [HNI.out]
      clear hc0 hlN
      have hW := HWX.out
      clear HWX
      by_cases hb : 0 < b.length ∧ b.length ≤ m.size
      · rw [if_neg (Decidable.not_not.2 hb)] at hW
        have hb1 : ((b.length : Int) == 0) = false := beq_eq_false_iff_ne.2 (by omega)
        have hb2 : ¬ (m.size : Int) < (b.length : Nat) := by omega
        by_cases hr : 65536 < N
        · rw [if_pos hr] at hW
          have HWH := Lib.hid hW
          clear hW
          have hr1 : ¬ (N : Int) < 1 := by omega
          have hr3 : 65536 < (N : Int) := by omega
          go_wp2
          go_ret2
          rw [HWH.out]
          exact ⟨rfl, mri_mr HI.out (mod_cell0 HRW.out) HV.out⟩
        · rw [if_neg hr] at hW
          have HWH := Lib.hid hW
          clear hW
          have hr1 : ¬ (N : Int) < 1 := by omega
          have hr2 : ¬ 65536 < (N : Int) := by omega
          have HAT := Lib.hid (mat_any HI.out.row m.rows (HV.out.grown (mod_cell0 HRW.out) HI.out.g) hl (N : Int))
          have HPU := Lib.hid (mput_any HI.out.row m.rows (HV.out.grown (mod_cell0 HRW.out) HI.out.g) hl HOK.out N b)
          go_wp2_with fail
          refine HAT.out.mono ?_
          rintro e w1 ⟨⟨z, rfl, hz1⟩, rfl⟩
          rcases hz1 with ⟨j, hj, rfl, hje⟩ | ⟨rfl, hno⟩
          · exact absurd (HMX.out _ (List.getElem_mem hj)) (by have := HNN.out; omega)
          · clear HAT hno
            go_wp2_with fail
            refine HPU.out.mono ?_
            rintro e w2 ⟨v', rfl, hown, hbw⟩
            obtain ⟨hmr, hc2, hz2⟩ := put_mr' HMM.out HI.out hown hbw
            obtain ⟨A', c', rfl⟩ := own_slice_len hown
            have HMR := Lib.hid hmr
            clear hown hbw hmr HPU hc hz
            go_wp2
            go_ret2
            rw [HWH.out]
            exact ⟨rfl, HMR.out⟩
      · rw [if_pos hb] at hW
        have HWH := Lib.hid hW
        clear hW
        by_cases hb1 : b.length = 0
        · have hb2 : ((b.length : Int) == 0) = true := by simp [hb1]
          go_wp2
          go_ret2
          rw [HWH.out]
          exact ⟨rfl, mri_mr HI.out (mod_cell0 HRW.out) HV.out⟩
        · have hb2 : ((b.length : Int) == 0) = false := beq_eq_false_iff_ne.2 (by omega)
          have hb3 : (m.size : Int) < (b.length : Nat) := by omega
          go_wp2
          go_ret2
          rw [HWH.out]
          exact ⟨rfl, mri_mr HI.out (mod_cell0 HRW.out) HV.out⟩
    · have hz0 : m.rows.length = 0 := by omega
      rw [hz0] at hc
      have hl0 : R.lastN m.rows = 0 := by
        rw [List.eq_nil_of_length_eq_zero (show m.rows.length = 0 by omega)]; rfl
      clear hrow hn0 hz0
      have HWX := Lib.hid hW
      clear hW
      go_enter Tryz.func50, Tryz.ntmps50
      go_wp2_with fail
      refine HMD.out.mono ?_
      rintro e w1 ⟨rfl, rfl⟩
      clear HMD
      go_upto_region 12 with fail
      rw [show Value.int .i64 1 = Value.int .i64 (N : Int) by rw [HNN.out, hl0]; rfl]
      have HI := HI0
      generalize w.setCell ⟨q, 6, none⟩ (.int .i64 0) = W at HI ⊢
      clear HI0 hc hz
      have hc := fun j => cell_of_row W q j _ _ _ HI.out.row
      have hz := frozen_row HI.out.row
      have hW := HWX.out
      clear HWX
      by_cases hb : 0 < b.length ∧ b.length ≤ m.size
      · rw [if_neg (Decidable.not_not.2 hb)] at hW
        have hb1 : ((b.length : Int) == 0) = false := beq_eq_false_iff_ne.2 (by omega)
        have hb2 : ¬ (m.size : Int) < (b.length : Nat) := by omega
        by_cases hr : 65536 < N
        · rw [if_pos hr] at hW
          have HWH := Lib.hid hW
          clear hW
          have hr1 : ¬ (N : Int) < 1 := by omega
          have hr3 : 65536 < (N : Int) := by omega
          go_wp2
          go_ret2
          rw [HWH.out]
          exact ⟨rfl, mri_mr HI.out (mod_cell0 HRW.out) HV.out⟩
        · rw [if_neg hr] at hW
          have HWH := Lib.hid hW
          clear hW
          have hr1 : ¬ (N : Int) < 1 := by omega
          have hr2 : ¬ 65536 < (N : Int) := by omega
          have HAT := Lib.hid (mat_any HI.out.row m.rows (HV.out.grown (mod_cell0 HRW.out) HI.out.g) hl (N : Int))
          have HPU := Lib.hid (mput_any HI.out.row m.rows (HV.out.grown (mod_cell0 HRW.out) HI.out.g) hl HOK.out N b)
          go_wp2_with fail
          refine HAT.out.mono ?_
          rintro e w1 ⟨⟨z, rfl, hz1⟩, rfl⟩
          rcases hz1 with ⟨j, hj, rfl, hje⟩ | ⟨rfl, hno⟩
          · exact absurd (HMX.out _ (List.getElem_mem hj)) (by have := HNN.out; omega)
          · clear HAT hno
            go_wp2_with fail
            refine HPU.out.mono ?_
            rintro e w2 ⟨v', rfl, hown, hbw⟩
            obtain ⟨hmr, hc2, hz2⟩ := put_mr' HMM.out HI.out hown hbw
            obtain ⟨A', c', rfl⟩ := own_slice_len hown
            have HMR := Lib.hid hmr
            clear hown hbw hmr HPU hc hz
            go_wp2
            go_ret2
            rw [HWH.out]
            exact ⟨rfl, HMR.out⟩
      · rw [if_pos hb] at hW
        have HWH := Lib.hid hW
        clear hW
        by_cases hb1 : b.length = 0
        · have hb2 : ((b.length : Int) == 0) = true := by simp [hb1]
          go_wp2
          go_ret2
          rw [HWH.out]
          exact ⟨rfl, mri_mr HI.out (mod_cell0 HRW.out) HV.out⟩
        · have hb2 : ((b.length : Int) == 0) = false := beq_eq_false_iff_ne.2 (by omega)
          have hb3 : (m.size : Int) < (b.length : Nat) := by omega
          go_wp2
          go_ret2
          rw [HWH.out]
          exact ⟨rfl, mri_mr HI.out (mod_cell0 HRW.out) HV.out⟩
  · rw [if_pos hs] at hW
    rw [mds_no hs] at HMD
    have hne : ((⟨(chk [52, 56] false 2 4 m.rel m.mode).toArray⟩ : ByteArray).toList == []) = false := bs_ne (y := []) (chk_nil _ _ _ _ _ _)
    generalize hst : (⟨(chk [52, 56] false 2 4 m.rel m.mode).toArray⟩ : ByteArray) = st at HMD hne
    have HST := Lib.hid hst
    clear hst
    clear hs hv hrow hok
    have HWH := Lib.hid hW
    clear hW
    go_enter Tryz.func50, Tryz.ntmps50
    go_wp2_with fail
    refine HMD.out.mono ?_
    rintro e w1 ⟨rfl, rfl⟩
    clear HMD
    go_wp2
    go_ret2
    rw [HWH.out, ← HST.out]
    exact ⟨rfl, mr_same HM.out⟩
end
end Go.Proofs.YtjbepnkchoaipaaGreat
/- Law 31: the law's model: change of a record (rewrite). Printed by gen_mchg.py. -/
namespace Go.Proofs.YtjbepnkchoaipaaGreat
open Go.RowKit Go.Lib Go.Maps Go.WideMaps Go.Sort
set_option maxRecDepth 100000
theorem lookI_yes {l : R.Rows} (hok : R.RowsOk l) {j : Nat} (hj : j < l.length) {k : Int} (h : (l[j].1 : Int) = k) : R.lookI l k = some l[j].2 := by
  have hp := hok.pos _ (List.getElem_mem hj)
  unfold R.lookI
  rw [if_pos (by omega), show k.toNat = l[j].1 by omega]
  exact R.look_of_mem hok (List.getElem_mem hj)
theorem lookI_no {l : R.Rows} {k : Int} (h : ∀ r ∈ l, (r.1 : Int) ≠ k) : R.lookI l k = none := by
  unfold R.lookI
  split
  · exact R.look_none_of (fun r hr e => h r hr (by omega))
  · rfl
section
variable {w w' : World} {q : Nat} {M : Nat → Prop} {m : R.M}
set_option maxHeartbeats 2000000 in
theorem mrewrite_k (h : MdR w q M m) (hM : ∀ k, M k → k < w.heap.size) (hl : m.rows.length ≤ 1000000) (hok : R.RowsOk m.rows) (k : Int) (hk : k ≠ 0) (b : J.B) (hbl : b.length ≤ 1000000) (hs : chk [52, 57] (decide (k ≠ 0)) 3 3 m.rel m.mode = R.good) (hrel : m.rel = true) :
    Calls Tryz.prog 51 #[.pointer (some ⟨q, 0, none⟩), .int .i64 k, .string ⟨b.toArray⟩, .bool false] w fun e w' => e = .returned (.string ⟨(m.rewrite k b).2.toArray⟩) ∧ MR w q M (m.rewrite k b).1 w' := by
  have HM := Lib.hid h
  obtain ⟨v, hrow, hv⟩ := h
  have HMD := Lib.hid (modes_any hrow [52, 57] (decide (k ≠ 0)) 3 3)
  rw [mds_ok hs (by decide)] at HMD
  obtain ⟨A, c, rfl, hlc, hat, _, _⟩ := hv.slice_
  have HA := Lib.hid hat
  have HRW := Lib.hid hrow
  have hsz : (⟨b.toArray⟩ : ByteArray).size = b.length := enc_size b
  obtain ⟨Wm, hW⟩ : ∃ x, x = m.rewrite k b := ⟨_, rfl⟩
  rw [← hW]
  unfold R.M.rewrite at hW
  rw [if_neg (Decidable.not_not.2 hs), show m.num k = k from if_neg hk] at hW
  have hc := fun j => cell_of_row w q j _ _ _ hrow
  have hz := frozen_row hrow
  have HV := Lib.hid hv
  have HOK := Lib.hid hok
  have HMM := Lib.hid hM
  have HI0 := Lib.hid (show MrI w q m (.slice A m.rows.length c) m.next 0 (w.setCell ⟨q, 6, none⟩ (.int .i64 0)) from ⟨grown_set (World.grownBy.refl w (some q)) 6 _, blk_set hrow 6 _⟩)
  have HAT := Lib.hid (mat_any HI0.out.row m.rows (hv.grown (mod_cell0 hrow) HI0.out.g) hl k)
  have HWX := Lib.hid hW
  have hk1 : (k != 0) = true := bne_iff_ne.2 hk
  have hk2 : (k == 0) = false := beq_eq_false_iff_ne.2 hk
  rw [decide_eq_true hk] at HMD
  rw [hrel] at hc
  have HREL := Lib.hid hrel
  clear hW hv hrow hok hat hs hrel
  go_enter Tryz.func51, Tryz.ntmps51
  go_wp2_with fail
  refine HMD.out.mono ?_
  rintro e w1 ⟨rfl, rfl⟩
  clear HMD
  go_wp2_with fail
  refine HAT.out.mono ?_
  rintro e w1 ⟨⟨z, rfl, hz1⟩, rfl⟩
  have hW := HWX.out
  clear HAT HWX hc hz
  have HI := HI0
  generalize hW0 : w.setCell ⟨q, 6, none⟩ (.int .i64 0) = W at HI ⊢
  have HW0 := Lib.hid hW0
  clear HI0 hW0
  have hc := fun j => cell_of_row W q j _ _ _ HI.out.row
  rw [HREL.out] at hc
  have hz := frozen_row HI.out.row
  have hN1 : ((k : Int) == 0) = false := beq_eq_false_iff_ne.2 (by omega)
  rw [if_neg (by omega)] at hW
  by_cases hb1 : b.length = 0
  · rw [if_pos (by omega)] at hW
    have hb2 : ((b.length : Int) == 0) = true := beq_iff_eq.2 (by omega)
    have HWH := Lib.hid hW
    clear hW hz1
    go_wp2
    go_ret
    rw [HWH.out]
    exact ⟨rfl, mri_mr HI.out (mod_cell0 HRW.out) HV.out⟩
  have hb2 : ((b.length : Int) == 0) = false := beq_eq_false_iff_ne.2 (by omega)
  by_cases hb3 : m.size < b.length
  · rw [if_pos (by omega)] at hW
    have hb4 : (m.size : Int) < (b.length : Nat) := by omega
    have HWH := Lib.hid hW
    clear hW hz1
    go_wp2
    go_ret
    rw [HWH.out]
    exact ⟨rfl, mri_mr HI.out (mod_cell0 HRW.out) HV.out⟩
  have hb4 : ¬ (m.size : Int) < (b.length : Nat) := by omega
  rw [if_neg (Decidable.not_not.2 ⟨by omega, .inl HREL.out⟩)] at hW
  rcases hz1 with ⟨j, hj, rfl, hje⟩ | ⟨rfl, hno⟩
  · have hj0 : ¬ (j : Int) < 0 := by omega
    rw [lookI_yes HOK.out hj hje] at hW
    have HWH := Lib.hid hW
    clear hW
    obtain ⟨n, rfl⟩ : ∃ n : Nat, k = n := ⟨m.rows[j].1, hje.symm⟩
    rw [Int.toNat_natCast] at HWH
    clear hje
    have HPU := Lib.hid (mput_any HI.out.row m.rows (HV.out.grown (mod_cell0 HRW.out) HI.out.g) hl HOK.out n b)
    go_wp2_with fail
    refine HPU.out.mono ?_
    rintro e w2 ⟨v', rfl, hown, hbw⟩
    obtain ⟨hmr, hc2, hz2⟩ := put_mr' HMM.out HI.out hown hbw
    obtain ⟨A', c', rfl⟩ := own_slice_len hown
    have HMR := Lib.hid hmr
    rw [HREL.out] at hc2
    clear hown hbw hmr HPU hc hz
    go_wp2
    go_ret
    rw [HWH.out]
    exact ⟨rfl, HMR.out⟩
  · rw [lookI_no hno] at hW
    have HWH := Lib.hid hW
    clear hW hno
    go_wp2
    go_ret
    rw [HWH.out]
    exact ⟨rfl, mri_mr HI.out (mod_cell0 HRW.out) HV.out⟩
set_option maxHeartbeats 2000000 in
theorem mrewrite_0 (h : MdR w q M m) (hM : ∀ k, M k → k < w.heap.size) (hl : m.rows.length ≤ 1000000) (hok : R.RowsOk m.rows)  (b : J.B) (hbl : b.length ≤ 1000000) (hs : chk [52, 57] (decide ((0 : Int) ≠ 0)) 3 3 m.rel m.mode = R.good) (hrel : m.rel = true) :
    Calls Tryz.prog 51 #[.pointer (some ⟨q, 0, none⟩), .int .i64 0, .string ⟨b.toArray⟩, .bool false] w fun e w' => e = .returned (.string ⟨(m.rewrite (0 : Int) b).2.toArray⟩) ∧ MR w q M (m.rewrite (0 : Int) b).1 w' := by
  have HM := Lib.hid h
  obtain ⟨v, hrow, hv⟩ := h
  have HMD := Lib.hid (modes_any hrow [52, 57] (decide ((0 : Int) ≠ 0)) 3 3)
  rw [mds_ok hs (by decide)] at HMD
  obtain ⟨A, c, rfl, hlc, hat, _, _⟩ := hv.slice_
  have HA := Lib.hid hat
  have HRW := Lib.hid hrow
  have hsz : (⟨b.toArray⟩ : ByteArray).size = b.length := enc_size b
  obtain ⟨Wm, hW⟩ : ∃ x, x = m.rewrite (0 : Int) b := ⟨_, rfl⟩
  rw [← hW]
  unfold R.M.rewrite at hW
  rw [if_neg (Decidable.not_not.2 hs), show m.num (0 : Int) = (m.last : Nat) from if_pos rfl] at hW
  have hc := fun j => cell_of_row w q j _ _ _ hrow
  have hz := frozen_row hrow
  have HV := Lib.hid hv
  have HOK := Lib.hid hok
  have HMM := Lib.hid hM
  have HI0 := Lib.hid (show MrI w q m (.slice A m.rows.length c) m.next 0 (w.setCell ⟨q, 6, none⟩ (.int .i64 0)) from ⟨grown_set (World.grownBy.refl w (some q)) 6 _, blk_set hrow 6 _⟩)
  have HAT := Lib.hid (mat_any HI0.out.row m.rows (hv.grown (mod_cell0 hrow) HI0.out.g) hl (m.last : Nat))
  have HWX := Lib.hid hW
  skip
  rw [hrel] at hc
  have HREL := Lib.hid hrel
  clear hW hv hrow hok hat hs hrel
  go_enter Tryz.func51, Tryz.ntmps51
  go_wp2_with fail
  refine HMD.out.mono ?_
  rintro e w1 ⟨rfl, rfl⟩
  clear HMD
  go_wp2_with fail
  refine HAT.out.mono ?_
  rintro e w1 ⟨⟨z, rfl, hz1⟩, rfl⟩
  have hW := HWX.out
  clear HAT HWX hc hz
  have HI := HI0
  generalize hW0 : w.setCell ⟨q, 6, none⟩ (.int .i64 0) = W at HI ⊢
  have HW0 := Lib.hid hW0
  clear HI0 hW0
  have hc := fun j => cell_of_row W q j _ _ _ HI.out.row
  rw [HREL.out] at hc
  have hz := frozen_row HI.out.row
  by_cases hN0 : m.last = 0
  · rw [if_pos (by omega)] at hW
    have hN1 : (((m.last : Nat) : Int) == 0) = true := beq_iff_eq.2 (by omega)
    have HWH := Lib.hid hW
    clear hW hz1
    go_wp2
    go_ret
    rw [HWH.out]
    exact ⟨rfl, mri_mr HI.out (mod_cell0 HRW.out) HV.out⟩
  · have hN1 : (((m.last : Nat) : Int) == 0) = false := beq_eq_false_iff_ne.2 (by omega)
    rw [if_neg (by omega)] at hW
    by_cases hb1 : b.length = 0
    · rw [if_pos (by omega)] at hW
      have hb2 : ((b.length : Int) == 0) = true := beq_iff_eq.2 (by omega)
      have HWH := Lib.hid hW
      clear hW hz1
      go_wp2
      go_ret
      rw [HWH.out]
      exact ⟨rfl, mri_mr HI.out (mod_cell0 HRW.out) HV.out⟩
    have hb2 : ((b.length : Int) == 0) = false := beq_eq_false_iff_ne.2 (by omega)
    by_cases hb3 : m.size < b.length
    · rw [if_pos (by omega)] at hW
      have hb4 : (m.size : Int) < (b.length : Nat) := by omega
      have HWH := Lib.hid hW
      clear hW hz1
      go_wp2
      go_ret
      rw [HWH.out]
      exact ⟨rfl, mri_mr HI.out (mod_cell0 HRW.out) HV.out⟩
    have hb4 : ¬ (m.size : Int) < (b.length : Nat) := by omega
    rw [if_neg (Decidable.not_not.2 ⟨by omega, .inl HREL.out⟩)] at hW
    rcases hz1 with ⟨j, hj, rfl, hje⟩ | ⟨rfl, hno⟩
    · have hj0 : ¬ (j : Int) < 0 := by omega
      rw [lookI_yes HOK.out hj hje] at hW
      have HWH := Lib.hid hW
      clear hW
      rw [Int.toNat_natCast] at HWH
      clear hje
      have HPU := Lib.hid (mput_any HI.out.row m.rows (HV.out.grown (mod_cell0 HRW.out) HI.out.g) hl HOK.out m.last b)
      go_wp2_with fail
      refine HPU.out.mono ?_
      rintro e w2 ⟨v', rfl, hown, hbw⟩
      obtain ⟨hmr, hc2, hz2⟩ := put_mr' HMM.out HI.out hown hbw
      obtain ⟨A', c', rfl⟩ := own_slice_len hown
      have HMR := Lib.hid hmr
      rw [HREL.out] at hc2
      clear hown hbw hmr HPU hc hz
      go_wp2
      go_ret
      rw [HWH.out]
      exact ⟨rfl, HMR.out⟩
    · rw [lookI_no hno] at hW
      have HWH := Lib.hid hW
      clear hW hno
      go_wp2
      go_ret
      rw [HWH.out]
      exact ⟨rfl, mri_mr HI.out (mod_cell0 HRW.out) HV.out⟩
set_option maxHeartbeats 2000000 in
theorem mrewrite_s (h : MdR w q M m) (hM : ∀ k, M k → k < w.heap.size) (hl : m.rows.length ≤ 1000000) (hok : R.RowsOk m.rows) (hla : m.last = 0 ∨ ∃ b, R.look m.rows m.last = some b) (b : J.B) (hbl : b.length ≤ 1000000) (hs : chk [52, 57] (decide ((0 : Int) ≠ 0)) 3 3 m.rel m.mode = R.good) (hrel : m.rel = false) :
    Calls Tryz.prog 51 #[.pointer (some ⟨q, 0, none⟩), .int .i64 0, .string ⟨b.toArray⟩, .bool false] w fun e w' => e = .returned (.string ⟨(m.rewrite (0 : Int) b).2.toArray⟩) ∧ MR w q M (m.rewrite (0 : Int) b).1 w' := by
  have HM := Lib.hid h
  obtain ⟨v, hrow, hv⟩ := h
  have HMD := Lib.hid (modes_any hrow [52, 57] (decide ((0 : Int) ≠ 0)) 3 3)
  rw [mds_ok hs (by decide)] at HMD
  obtain ⟨A, c, rfl, hlc, hat, _, _⟩ := hv.slice_
  have HA := Lib.hid hat
  have HRW := Lib.hid hrow
  have hsz : (⟨b.toArray⟩ : ByteArray).size = b.length := enc_size b
  obtain ⟨Wm, hW⟩ : ∃ x, x = m.rewrite (0 : Int) b := ⟨_, rfl⟩
  rw [← hW]
  unfold R.M.rewrite at hW
  rw [if_neg (Decidable.not_not.2 hs), show m.num (0 : Int) = (m.last : Nat) from if_pos rfl] at hW
  have hc := fun j => cell_of_row w q j _ _ _ hrow
  have hz := frozen_row hrow
  have HV := Lib.hid hv
  have HOK := Lib.hid hok
  have HMM := Lib.hid hM
  have HI0 := Lib.hid (show MrI w q m (.slice A m.rows.length c) m.next 0 (w.setCell ⟨q, 6, none⟩ (.int .i64 0)) from ⟨grown_set (World.grownBy.refl w (some q)) 6 _, blk_set hrow 6 _⟩)
  have HAT := Lib.hid (mat_any HI0.out.row m.rows (hv.grown (mod_cell0 hrow) HI0.out.g) hl (m.last : Nat))
  have HWX := Lib.hid hW
  have HLA := Lib.hid hla
  clear hla
  rw [hrel] at hc
  have HREL := Lib.hid hrel
  clear hW hv hrow hok hat hs hrel
  go_enter Tryz.func51, Tryz.ntmps51
  go_wp2_with fail
  refine HMD.out.mono ?_
  rintro e w1 ⟨rfl, rfl⟩
  clear HMD
  go_wp2_with fail
  refine HAT.out.mono ?_
  rintro e w1 ⟨⟨z, rfl, hz1⟩, rfl⟩
  have hW := HWX.out
  clear HAT HWX hc hz
  have HI := HI0
  generalize hW0 : w.setCell ⟨q, 6, none⟩ (.int .i64 0) = W at HI ⊢
  have HW0 := Lib.hid hW0
  clear HI0 hW0
  have hc := fun j => cell_of_row W q j _ _ _ HI.out.row
  rw [HREL.out] at hc
  have hz := frozen_row HI.out.row
  by_cases hN0 : m.last = 0
  · rw [if_pos (by omega)] at hW
    have hN1 : (((m.last : Nat) : Int) == 0) = true := beq_iff_eq.2 (by omega)
    have HWH := Lib.hid hW
    clear hW hz1
    go_wp2
    go_ret
    rw [HWH.out]
    exact ⟨rfl, mri_mr HI.out (mod_cell0 HRW.out) HV.out⟩
  · have hN1 : (((m.last : Nat) : Int) == 0) = false := beq_eq_false_iff_ne.2 (by omega)
    rw [if_neg (by omega)] at hW
    rcases hz1 with ⟨j, hj, rfl, hje⟩ | ⟨rfl, hno⟩
    · have hj0 : ¬ (j : Int) < 0 := by omega
      rw [lookI_yes HOK.out hj hje] at hW
      have hmx : max (j : Int) 0 = j := by omega
      obtain ⟨g, rfl, hg, hcells⟩ := HA.out (by omega)
      obtain ⟨_, c1⟩ := rwCells_get m.rows j hj
      have hgq : g ≠ q := by
        rintro rfl
        exact mod_cell0 HRW.out (m.rows[0]'(by omega)).1 (hcells 0 _ (rwCells_get m.rows 0 (by omega)).1)
      have hgb := HI.out.g.block g hg (fun e => hgq (by injection e))
      have hc1 : W.cell? ⟨g, j * 2 + 1, none⟩ = some (encStr m.rows[j].2) := (World.cell?_of_block hgb).trans (hcells _ _ c1)
      generalize hxb : m.rows[j].2 = x at hc1 hW
      have hxs : (⟨x.toArray⟩ : ByteArray).size = x.length := enc_size x
      clear hcells c1 hgq hgb hxb hje
      by_cases hb1 : b.length = 0
      · rw [if_pos (by omega)] at hW
        have hb2 : ((b.length : Int) == 0) = true := beq_iff_eq.2 (by omega)
        have HWH := Lib.hid hW
        clear hW
        go_wp2
        go_ret
        rw [HWH.out]
        exact ⟨rfl, mri_mr HI.out (mod_cell0 HRW.out) HV.out⟩
      have hb2 : ((b.length : Int) == 0) = false := beq_eq_false_iff_ne.2 (by omega)
      by_cases hb3 : m.size < b.length
      · rw [if_pos (by omega)] at hW
        have hb4 : (m.size : Int) < (b.length : Nat) := by omega
        have HWH := Lib.hid hW
        clear hW
        go_wp2
        go_ret
        rw [HWH.out]
        exact ⟨rfl, mri_mr HI.out (mod_cell0 HRW.out) HV.out⟩
      have hb4 : ¬ (m.size : Int) < (b.length : Nat) := by omega
      by_cases hb5 : x.length = b.length
      · have hb6 : ((b.length : Int) != (x.length : Nat)) = false := by simp [hb5]
        rw [if_neg (Decidable.not_not.2 ⟨by omega, .inr hb5⟩)] at hW
        have HWH := Lib.hid hW
        rw [Int.toNat_natCast] at HWH
        clear hW
        have HPU := Lib.hid (mput_any HI.out.row m.rows (HV.out.grown (mod_cell0 HRW.out) HI.out.g) hl HOK.out m.last b)
        go_wp2_with fail
        refine HPU.out.mono ?_
        rintro e w2 ⟨v', rfl, hown, hbw⟩
        obtain ⟨hmr, hc2, hz2⟩ := put_mr' HMM.out HI.out hown hbw
        obtain ⟨A', c', rfl⟩ := own_slice_len hown
        have HMR := Lib.hid hmr
        rw [HREL.out] at hc2
        clear hown hbw hmr HPU hc hz
        go_wp2
        go_ret
        rw [HWH.out]
        exact ⟨rfl, HMR.out⟩
      · have hb6 : ((b.length : Int) != (x.length : Nat)) = true := bne_iff_ne.2 (by omega)
        rw [if_pos (fun hh => hb5 (hh.2.resolve_left (by rw [HREL.out]; decide)))] at hW
        have HWH := Lib.hid hW
        clear hW
        go_wp2
        go_ret
        rw [HWH.out]
        exact ⟨rfl, mri_mr HI.out (mod_cell0 HRW.out) HV.out⟩
    · exfalso
      rcases HLA.out with h0 | ⟨y, hy⟩
      · omega
      · exact hno _ (R.look_mem hy) rfl
end
end Go.Proofs.YtjbepnkchoaipaaGreat
/- Law 31: the law's model: change of a record (delete). Printed by gen_mdel.py. -/
namespace Go.Proofs.YtjbepnkchoaipaaGreat
open Go.RowKit Go.Lib Go.Maps Go.WideMaps Go.Sort
set_option maxRecDepth 100000
theorem wp_app_rws {w : World} {o : Oper} {a : Act} {K : Act → World → Prop} {Q : Exit → Act → World → Prop} (s x : Operand) (ho : o.op = .call { callee := .builtin .append, args := #[s, x], argTypes := #[56, 56] })
    (base : Nat) (v : Value) (n : Nat) (l : List (Nat × J.B)) (hs : a.eval s = v) (hown : w.ownsRow base 108 2 v n (rwCells l)) (A : Option Addr) (m c : Nat) (x' : List (Nat × J.B)) (hx : a.eval x = .slice A m c) (hr : RwsO w A x') (hm : x'.length = m)
    (hb : n + m ≤ 100000000) (hbase : base ≤ w.heap.size)
    (h : ∀ v' w', w'.ownsRow base 108 2 v' (n + m) (rwCells (l ++ x')) → w.grownBy w' v.ownBlock → (v'.ownBlock = v.ownBlock ∨ v'.ownBlock = some w.heap.size) → K (a.put o.dst v') w') : o.wp Tryz.prog a w K Q := by
  obtain ⟨v', w', hrun, h2, h3, h4⟩ := run_append_rws w base v n l hown A m c x' hr hm hb hbase o.type
  unfold Oper.wp execOp
  simp only [ho, resolve, invoke, builtin, Sem.run_bind, Sem.run_pure, Result.andThen_ok, List.map_toArray, List.map_cons, List.map_nil, hs, hx, hrun]
  exact h v' w' h2 h3 h4
theorem del_at {l : R.Rows} (hok : R.RowsOk l) {j : Nat} (hj : j < l.length) : R.del l l[j].1 = l.take j ++ l.drop (j + 1) := by
  have e : l = l.take j ++ l[j] :: l.drop (j + 1) := by rw [← List.drop_eq_getElem_cons hj, List.take_append_drop]
  have ha := hok.asc
  have hq := List.pairwise_iff_getElem.1 ha
  generalize hx : l[j] = x at e
  unfold R.del
  conv => lhs; rw [e]
  rw [List.filter_append, List.filter_cons_of_neg (by simp)]
  congr 1
  · refine List.filter_eq_self.2 fun r hr => ?_
    obtain ⟨t, ht, rfl⟩ := List.getElem_of_mem hr
    rw [List.length_take] at ht
    rw [List.getElem_take]
    have := hq t j (by omega) hj (by omega)
    rw [hx] at this
    simp; omega
  · refine List.filter_eq_self.2 fun r hr => ?_
    obtain ⟨t, ht, rfl⟩ := List.getElem_of_mem hr
    rw [List.length_drop] at ht
    rw [List.getElem_drop]
    have := hq j (j + 1 + t) hj (by omega) (by omega)
    rw [hx] at this
    simp; omega
section
variable {w w' : World} {q : Nat} {M : Nat → Prop} {m : R.M}
theorem rows_mr {v v' : Value} {nx la base : Nat} {l : R.Rows} {W : World} (hM : ∀ k, M k → k < w.heap.size) (h : MrI w q m v nx la W) (hbase : w.heap.size ≤ base) (hown : W.ownsRow base 108 2 v' l.length (rwCells l)) :
    MR w q M { m with next := nx, last := la, rows := l } (W.setCell ⟨q, 3, none⟩ v') := by
  have hr := own_rws (M := M) hown (fun k hk => Nat.lt_of_lt_of_le (hM k hk) hbase)
  exact ⟨grown_set h.g 3 v', v', blk_set h.row 3 v', hr.grown (mod_cell0 h.row) (grown_set (World.grownBy.refl W (some q)) 3 v')⟩
set_option maxHeartbeats 2000000 in
theorem mdelete_k (h : MdR w q M m) (hM : ∀ k, M k → k < w.heap.size) (hl : m.rows.length ≤ 1000000) (hok : R.RowsOk m.rows) (k : Int) (hk : k ≠ 0) (hs : chk [52, 57] true 3 3 m.rel m.mode = R.good) (hrel : m.rel = true) :
    Calls Tryz.prog 51 #[.pointer (some ⟨q, 0, none⟩), .int .i64 k, .string ⟨#[]⟩, .bool true] w fun e w' => e = .returned (.string ⟨(m.delete k).2.toArray⟩) ∧ MR w q M (m.delete k).1 w' := by
  have HM := Lib.hid h
  obtain ⟨v, hrow, hv⟩ := h
  have HMD := Lib.hid (modes_any hrow [52, 57] true 3 3)
  rw [mds_ok hs (by decide)] at HMD
  obtain ⟨A, c, rfl, hlc, hat, _, hat_o⟩ := hv.slice_
  have HA := Lib.hid hat
  have HRW := Lib.hid hrow
  obtain ⟨Wm, hW⟩ : ∃ x, x = m.delete k := ⟨_, rfl⟩
  rw [← hW]
  unfold R.M.delete at hW
  rw [if_neg (Decidable.not_not.2 hs), show m.num k = k from if_neg hk] at hW
  have hc := fun j => cell_of_row w q j _ _ _ hrow
  have hz := frozen_row hrow
  have HV := Lib.hid hv
  have HOK := Lib.hid hok
  have HMM := Lib.hid hM
  have HI0 := Lib.hid (show MrI w q m (.slice A m.rows.length c) m.next 0 (w.setCell ⟨q, 6, none⟩ (.int .i64 0)) from ⟨grown_set (World.grownBy.refl w (some q)) 6 _, blk_set hrow 6 _⟩)
  have HSL := Lib.hid hat_o
  have HAT := Lib.hid (mat_any HI0.out.row m.rows (hv.grown (mod_cell0 hrow) HI0.out.g) hl k)
  have HWX := Lib.hid hW
  have hk1 : (k != 0) = true := bne_iff_ne.2 hk
  have hk2 : (k == 0) = false := beq_eq_false_iff_ne.2 hk
  rw [hrel] at hc
  have HREL := Lib.hid hrel
  clear hW hv hrow hok hat hat_o hs hrel
  go_enter Tryz.func51, Tryz.ntmps51
  go_wp2_with fail
  refine HMD.out.mono ?_
  rintro e w1 ⟨rfl, rfl⟩
  clear HMD
  go_wp2_with fail
  refine HAT.out.mono ?_
  rintro e w1 ⟨⟨z, rfl, hz1⟩, rfl⟩
  have hW := HWX.out
  clear HAT HWX hc hz
  have HI := HI0
  generalize hW0 : w.setCell ⟨q, 6, none⟩ (.int .i64 0) = W at HI ⊢
  have HW0 := Lib.hid hW0
  clear HI0 hW0
  have hc := fun j => cell_of_row W q j _ _ _ HI.out.row
  rw [HREL.out] at hc
  have hz := frozen_row HI.out.row
  have hN1 : ((k : Int) == 0) = false := beq_eq_false_iff_ne.2 (by omega)
  rw [if_neg (by omega)] at hW
  rcases hz1 with ⟨j, hj, rfl, hje⟩ | ⟨rfl, hno⟩
  · have hj0 : ¬ (j : Int) < 0 := by omega
    rw [lookI_yes HOK.out hj hje] at hW
    obtain ⟨n, rfl⟩ : ∃ n : Nat, k = n := ⟨m.rows[j].1, hje.symm⟩
    have HDE := Lib.hid (del_at HOK.out hj)
    rw [show m.rows[j].1 = n by omega] at HDE
    rw [Int.toNat_natCast] at hW
    clear hje
    rw [HDE.out] at hW
    have HWH := Lib.hid hW
    clear hW
    have hlc1 := hlc
    have hav := (HV.out.grown (mod_cell0 HRW.out) HI.out.g).slice_
    have hat2 : RwsAt W.drew A m.rows := by
      obtain ⟨A2, c2, e2, _, h2, _⟩ := hav
      injection e2 with e2
      subst e2
      exact h2
    obtain ⟨A1, hr1, hs1⟩ := run_slice_rws (A := A) (l := m.rows) (n := m.rows.length) (c := c) rfl 0 j (Nat.zero_le _) (by omega) hlc1 none (some (.int .i64 (j : Nat))) (.inr ⟨rfl, rfl⟩) (.inl rfl) HSL.out
    obtain ⟨A2, hr2, hs2⟩ := run_slice_rws (A := A) (l := m.rows) (n := m.rows.length) (c := c) rfl (j + 1) m.rows.length (by omega) (Nat.le_refl _) hlc1 (some (.int .i64 ((j : Int) + 1))) none (.inl rfl) (.inr ⟨rfl, rfl⟩) HSL.out
    have HS1 := Lib.hid (hs1 _ hat2)
    have HS2 := Lib.hid (hs2 _ hat2)
    have HID := Lib.hid (mri_drew HI.out)
    clear hs1 hs2 hat2 hav
    go_upto_region 17 with fail
    clear hz hc
    refine wp_region_pm 17 (.rd 0 (.rd 2 (.rd 3 (.rd 4 (.rd 5 (.rd 6 (.rd 7 (.rd 9 (.rd 10 (.rd 11 (.rd 12 (.rd 13 (.rd 14 (.rd 15 (.wr 1 (.wr 8 (.wr 16 .fin))))))))))))))))) (fun w' => Below W.drew.heap.size W.drew w') (by kernel_rfl) (by kernel_rfl) (fun c a d v w h => by cases d <;> exact h) (Below.refl _ _) ?_
    generalize W.drew = V at HS1 HS2 HID ⊢
    repeat
      refine wpPm_read (v := ?_) (by rfl) (by rfl) (fun w' hS => ?_) (fun K hK => ?_)
      rotate_left
      · have hcx := fun j => cell_of_row w' q j _ _ _ (mri_below HID.out hS).row
        have hwr : IntKind.i64.wrap ((j : Int) + 1) = (j : Int) + 1 := IntWalk.i64_in _ (by omega)
        clear hS
        go_simp
        try with_reducible rfl
      go_simp
      refine hK _ ?_
      clear hK K
    clear hr1 hr2
    have HR1 := Lib.hid (empty_rws (base := V.heap.size) V (Nat.le_refl _))
    have HB1 := Lib.hid ((Below.refl V.heap.size V).alloc (Nat.le_refl _) (.cells #[] 108))
    refine wpPm_write (by rfl) (fun K hK => ?_)
    go_simp
    refine hK.out _ _ (fun w' => Below V.heap.size V w') (fun _ h => h) HB1.out ?_
    clear hK K
    refine wpPm_write (by rfl) (fun K hK => ?_)
    refine (if_pos (by rfl)).mpr ?_
    refine wp_app_rws _ _ (by rfl) V.heap.size (.slice (some ⟨V.heap.size, 0, none⟩) 0 0) 0 [] (by rfl) HR1.out A1 (j - 0) (c - 0) ((m.rows.take j).drop 0) (by rfl) (HS1.out.below HB1.out) (by rw [List.length_drop, List.length_take]; omega) (by omega) HB1.out.size ?_
    intro v8 x8 hown8 hg8 hat8
    have hb8 := HB1.out.grown hg8 HB1.out.size (fun j hj => (HR1.out.lt j hj).1)
    have HB8 := Lib.hid hb8
    have HO8 := Lib.hid hown8
    clear hown8 hg8 hat8 hb8
    refine hK.out _ _ (fun w' => Below V.heap.size V w') (fun _ h => h) HB8.out ?_
    clear hK K
    refine wpPm_write (by rfl) (fun K hK => ?_)
    refine (if_pos (by rfl)).mpr ?_
    refine wp_app_rws _ _ (by rfl) V.heap.size v8 (0 + (j - 0)) ([] ++ (m.rows.take j).drop 0) (by rfl) HO8.out A2 (m.rows.length - (j + 1)) (c - (j + 1)) ((m.rows.take m.rows.length).drop (j + 1)) (by rfl) (HS2.out.below HB8.out) (by rw [List.length_drop, List.length_take]; omega) (by omega) HB8.out.size ?_
    intro v9 x9 hown9 hg9 hat9
    have hb9 := HB8.out.grown hg9 HB8.out.size (fun j hj => (HO8.out.lt j hj).1)
    have hown9 := show x9.ownsRow V.heap.size 108 2 v9 (m.rows.take j ++ m.rows.drop (j + 1)).length (rwCells (m.rows.take j ++ m.rows.drop (j + 1))) from by
      rw [List.take_length, List.drop_zero, List.nil_append] at hown9
      rw [show (m.rows.take j ++ m.rows.drop (j + 1)).length = 0 + (j - 0) + (m.rows.length - (j + 1)) by rw [List.length_append, List.length_take, List.length_drop]; omega]
      exact hown9
    obtain ⟨A9, c9, rfl⟩ := own_slice_len hown9
    have HI9 := Lib.hid (mri_below HID.out hb9)
    have HMR := Lib.hid (rows_mr HMM.out HI9.out HID.out.g.size hown9)
    have HB9 := Lib.hid hb9
    clear hown9 hg9 hat9 hb9 HO8 HB8 HR1 HB1
    generalize (m.rows.take j ++ m.rows.drop (j + 1)).length = L at HMR ⊢
    refine hK.out _ _ (fun w' => Below V.heap.size V w') (fun _ h => h) HB9.out ?_
    clear hK K
    show wpList _ _ _ _ _ _
    have hc9 := fun j => cell_of_row x9 q j _ _ _ HI9.out.row
    have hz9 := frozen_row HI9.out.row
    go_wp2
    go_ret
    rw [HWH.out]
    exact ⟨rfl, HMR.out⟩
  · rw [lookI_no hno] at hW
    have HWH := Lib.hid hW
    clear hW hno
    go_wp2
    go_ret
    rw [HWH.out]
    exact ⟨rfl, mri_mr HI.out (mod_cell0 HRW.out) HV.out⟩
set_option maxHeartbeats 2000000 in
theorem mdelete_0 (h : MdR w q M m) (hM : ∀ k, M k → k < w.heap.size) (hl : m.rows.length ≤ 1000000) (hok : R.RowsOk m.rows)  (hs : chk [52, 57] true 3 3 m.rel m.mode = R.good) (hrel : m.rel = true) :
    Calls Tryz.prog 51 #[.pointer (some ⟨q, 0, none⟩), .int .i64 0, .string ⟨#[]⟩, .bool true] w fun e w' => e = .returned (.string ⟨(m.delete (0 : Int)).2.toArray⟩) ∧ MR w q M (m.delete (0 : Int)).1 w' := by
  have HM := Lib.hid h
  obtain ⟨v, hrow, hv⟩ := h
  have HMD := Lib.hid (modes_any hrow [52, 57] true 3 3)
  rw [mds_ok hs (by decide)] at HMD
  obtain ⟨A, c, rfl, hlc, hat, _, hat_o⟩ := hv.slice_
  have HA := Lib.hid hat
  have HRW := Lib.hid hrow
  obtain ⟨Wm, hW⟩ : ∃ x, x = m.delete (0 : Int) := ⟨_, rfl⟩
  rw [← hW]
  unfold R.M.delete at hW
  rw [if_neg (Decidable.not_not.2 hs), show m.num (0 : Int) = (m.last : Nat) from if_pos rfl] at hW
  have hc := fun j => cell_of_row w q j _ _ _ hrow
  have hz := frozen_row hrow
  have HV := Lib.hid hv
  have HOK := Lib.hid hok
  have HMM := Lib.hid hM
  have HI0 := Lib.hid (show MrI w q m (.slice A m.rows.length c) m.next 0 (w.setCell ⟨q, 6, none⟩ (.int .i64 0)) from ⟨grown_set (World.grownBy.refl w (some q)) 6 _, blk_set hrow 6 _⟩)
  have HSL := Lib.hid hat_o
  have HAT := Lib.hid (mat_any HI0.out.row m.rows (hv.grown (mod_cell0 hrow) HI0.out.g) hl (m.last : Nat))
  have HWX := Lib.hid hW
  skip
  rw [hrel] at hc
  have HREL := Lib.hid hrel
  clear hW hv hrow hok hat hat_o hs hrel
  go_enter Tryz.func51, Tryz.ntmps51
  go_wp2_with fail
  refine HMD.out.mono ?_
  rintro e w1 ⟨rfl, rfl⟩
  clear HMD
  go_wp2_with fail
  refine HAT.out.mono ?_
  rintro e w1 ⟨⟨z, rfl, hz1⟩, rfl⟩
  have hW := HWX.out
  clear HAT HWX hc hz
  have HI := HI0
  generalize hW0 : w.setCell ⟨q, 6, none⟩ (.int .i64 0) = W at HI ⊢
  have HW0 := Lib.hid hW0
  clear HI0 hW0
  have hc := fun j => cell_of_row W q j _ _ _ HI.out.row
  rw [HREL.out] at hc
  have hz := frozen_row HI.out.row
  by_cases hN0 : m.last = 0
  · rw [if_pos (by omega)] at hW
    have hN1 : (((m.last : Nat) : Int) == 0) = true := beq_iff_eq.2 (by omega)
    have HWH := Lib.hid hW
    clear hW hz1
    go_wp2
    go_ret
    rw [HWH.out]
    exact ⟨rfl, mri_mr HI.out (mod_cell0 HRW.out) HV.out⟩
  · have hN1 : (((m.last : Nat) : Int) == 0) = false := beq_eq_false_iff_ne.2 (by omega)
    rw [if_neg (by omega)] at hW
    rcases hz1 with ⟨j, hj, rfl, hje⟩ | ⟨rfl, hno⟩
    · have hj0 : ¬ (j : Int) < 0 := by omega
      rw [lookI_yes HOK.out hj hje] at hW
      have HDE := Lib.hid (del_at HOK.out hj)
      rw [show m.rows[j].1 = m.last by omega] at HDE
      rw [Int.toNat_natCast] at hW
      clear hje
      rw [HDE.out] at hW
      have HWH := Lib.hid hW
      clear hW
      have hlc1 := hlc
      have hav := (HV.out.grown (mod_cell0 HRW.out) HI.out.g).slice_
      have hat2 : RwsAt W.drew A m.rows := by
        obtain ⟨A2, c2, e2, _, h2, _⟩ := hav
        injection e2 with e2
        subst e2
        exact h2
      obtain ⟨A1, hr1, hs1⟩ := run_slice_rws (A := A) (l := m.rows) (n := m.rows.length) (c := c) rfl 0 j (Nat.zero_le _) (by omega) hlc1 none (some (.int .i64 (j : Nat))) (.inr ⟨rfl, rfl⟩) (.inl rfl) HSL.out
      obtain ⟨A2, hr2, hs2⟩ := run_slice_rws (A := A) (l := m.rows) (n := m.rows.length) (c := c) rfl (j + 1) m.rows.length (by omega) (Nat.le_refl _) hlc1 (some (.int .i64 ((j : Int) + 1))) none (.inl rfl) (.inr ⟨rfl, rfl⟩) HSL.out
      have HS1 := Lib.hid (hs1 _ hat2)
      have HS2 := Lib.hid (hs2 _ hat2)
      have HID := Lib.hid (mri_drew HI.out)
      clear hs1 hs2 hat2 hav
      go_upto_region 17 with fail
      clear hz hc
      refine wp_region_pm 17 (.rd 0 (.rd 2 (.rd 3 (.rd 4 (.rd 5 (.rd 6 (.rd 7 (.rd 9 (.rd 10 (.rd 11 (.rd 12 (.rd 13 (.rd 14 (.rd 15 (.wr 1 (.wr 8 (.wr 16 .fin))))))))))))))))) (fun w' => Below W.drew.heap.size W.drew w') (by kernel_rfl) (by kernel_rfl) (fun c a d v w h => by cases d <;> exact h) (Below.refl _ _) ?_
      generalize W.drew = V at HS1 HS2 HID ⊢
      repeat
        refine wpPm_read (v := ?_) (by rfl) (by rfl) (fun w' hS => ?_) (fun K hK => ?_)
        rotate_left
        · have hcx := fun j => cell_of_row w' q j _ _ _ (mri_below HID.out hS).row
          have hwr : IntKind.i64.wrap ((j : Int) + 1) = (j : Int) + 1 := IntWalk.i64_in _ (by omega)
          clear hS
          go_simp
          try with_reducible rfl
        go_simp
        refine hK _ ?_
        clear hK K
      clear hr1 hr2
      have HR1 := Lib.hid (empty_rws (base := V.heap.size) V (Nat.le_refl _))
      have HB1 := Lib.hid ((Below.refl V.heap.size V).alloc (Nat.le_refl _) (.cells #[] 108))
      refine wpPm_write (by rfl) (fun K hK => ?_)
      go_simp
      refine hK.out _ _ (fun w' => Below V.heap.size V w') (fun _ h => h) HB1.out ?_
      clear hK K
      refine wpPm_write (by rfl) (fun K hK => ?_)
      refine (if_pos (by rfl)).mpr ?_
      refine wp_app_rws _ _ (by rfl) V.heap.size (.slice (some ⟨V.heap.size, 0, none⟩) 0 0) 0 [] (by rfl) HR1.out A1 (j - 0) (c - 0) ((m.rows.take j).drop 0) (by rfl) (HS1.out.below HB1.out) (by rw [List.length_drop, List.length_take]; omega) (by omega) HB1.out.size ?_
      intro v8 x8 hown8 hg8 hat8
      have hb8 := HB1.out.grown hg8 HB1.out.size (fun j hj => (HR1.out.lt j hj).1)
      have HB8 := Lib.hid hb8
      have HO8 := Lib.hid hown8
      clear hown8 hg8 hat8 hb8
      refine hK.out _ _ (fun w' => Below V.heap.size V w') (fun _ h => h) HB8.out ?_
      clear hK K
      refine wpPm_write (by rfl) (fun K hK => ?_)
      refine (if_pos (by rfl)).mpr ?_
      refine wp_app_rws _ _ (by rfl) V.heap.size v8 (0 + (j - 0)) ([] ++ (m.rows.take j).drop 0) (by rfl) HO8.out A2 (m.rows.length - (j + 1)) (c - (j + 1)) ((m.rows.take m.rows.length).drop (j + 1)) (by rfl) (HS2.out.below HB8.out) (by rw [List.length_drop, List.length_take]; omega) (by omega) HB8.out.size ?_
      intro v9 x9 hown9 hg9 hat9
      have hb9 := HB8.out.grown hg9 HB8.out.size (fun j hj => (HO8.out.lt j hj).1)
      have hown9 := show x9.ownsRow V.heap.size 108 2 v9 (m.rows.take j ++ m.rows.drop (j + 1)).length (rwCells (m.rows.take j ++ m.rows.drop (j + 1))) from by
        rw [List.take_length, List.drop_zero, List.nil_append] at hown9
        rw [show (m.rows.take j ++ m.rows.drop (j + 1)).length = 0 + (j - 0) + (m.rows.length - (j + 1)) by rw [List.length_append, List.length_take, List.length_drop]; omega]
        exact hown9
      obtain ⟨A9, c9, rfl⟩ := own_slice_len hown9
      have HI9 := Lib.hid (mri_below HID.out hb9)
      have HMR := Lib.hid (rows_mr HMM.out HI9.out HID.out.g.size hown9)
      have HB9 := Lib.hid hb9
      clear hown9 hg9 hat9 hb9 HO8 HB8 HR1 HB1
      generalize (m.rows.take j ++ m.rows.drop (j + 1)).length = L at HMR ⊢
      refine hK.out _ _ (fun w' => Below V.heap.size V w') (fun _ h => h) HB9.out ?_
      clear hK K
      show wpList _ _ _ _ _ _
      have hc9 := fun j => cell_of_row x9 q j _ _ _ HI9.out.row
      have hz9 := frozen_row HI9.out.row
      go_wp2
      go_ret
      rw [HWH.out]
      exact ⟨rfl, HMR.out⟩
    · rw [lookI_no hno] at hW
      have HWH := Lib.hid hW
      clear hW hno
      go_wp2
      go_ret
      rw [HWH.out]
      exact ⟨rfl, mri_mr HI.out (mod_cell0 HRW.out) HV.out⟩
end
end Go.Proofs.YtjbepnkchoaipaaGreat
/- Law 31: the law's model: change, whole. -/
namespace Go.Proofs.YtjbepnkchoaipaaGreat
open Go.RowKit Go.Lib Go.Maps Go.WideMaps Go.Sort
set_option maxRecDepth 100000
section
variable {w w' : World} {q : Nat} {M : Nat → Prop} {m : R.M}
theorem mchg_shut (h : MdR w q M m) (k : Int) (b : ByteArray) (gone need : Bool) (hn : need = (decide (k ≠ 0) || gone)) (hs : chk [52, 57] need 3 3 m.rel m.mode ≠ R.good) :
    Calls Tryz.prog 51 #[.pointer (some ⟨q, 0, none⟩), .int .i64 k, .string b, .bool gone] w fun e w' => e = .returned (.string ⟨(chk [52, 57] need 3 3 m.rel m.mode).toArray⟩) ∧ MR w q M m w' := by
  have HM := Lib.hid h
  obtain ⟨v, hrow, hv⟩ := h
  have HMD := Lib.hid (modes_any hrow [52, 57] need 3 3)
  rw [mds_no hs] at HMD
  have hne : ((⟨(chk [52, 57] need 3 3 m.rel m.mode).toArray⟩ : ByteArray).toList == []) = false := bs_ne (y := []) (chk_nil _ _ _ _ _ _)
  generalize (⟨(chk [52, 57] need 3 3 m.rel m.mode).toArray⟩ : ByteArray) = st at HMD hne ⊢
  clear hs hv hrow
  by_cases hk : k = 0
  · subst hk
    obtain rfl : need = gone := by rw [hn]; rfl
    clear hn
    go_enter Tryz.func51, Tryz.ntmps51
    go_wp2_with fail
    refine HMD.out.mono ?_
    rintro e w1 ⟨rfl, rfl⟩
    clear HMD
    go_wp2
    go_ret
    exact ⟨rfl, mr_same HM.out⟩
  · have hk1 : (k != 0) = true := bne_iff_ne.2 hk
    obtain rfl : need = true := by rw [hn, decide_eq_true hk]; rfl
    clear hn
    go_enter Tryz.func51, Tryz.ntmps51
    go_wp2_with fail
    refine HMD.out.mono ?_
    rintro e w1 ⟨rfl, rfl⟩
    clear HMD
    go_wp2
    go_ret
    exact ⟨rfl, mr_same HM.out⟩
theorem chk_rel {wrong : J.B} {a b : Nat} {rel : Bool} {mode : Nat} (h : chk wrong true a b rel mode = R.good) : rel = true := by
  cases rel
  · exact absurd (chk_broken.symm.trans h) (by decide)
  · rfl
theorem mrewrite_any (h : MdR w q M m) (hM : ∀ k, M k → k < w.heap.size) (hl : m.rows.length ≤ 1000000) (hok : R.RowsOk m.rows) (hla : m.last = 0 ∨ ∃ b, R.look m.rows m.last = some b) (k : Int) (b : J.B) (hbl : b.length ≤ 1000000) :
    Calls Tryz.prog 51 #[.pointer (some ⟨q, 0, none⟩), .int .i64 k, .string ⟨b.toArray⟩, .bool false] w fun e w' => e = .returned (.string ⟨(m.rewrite k b).2.toArray⟩) ∧ MR w q M (m.rewrite k b).1 w' := by
  by_cases hs : chk [52, 57] (decide (k ≠ 0)) 3 3 m.rel m.mode = R.good
  · by_cases hk : k = 0
    · subst hk
      cases hr : m.rel
      · exact mrewrite_s h hM hl hok hla b hbl hs hr
      · exact mrewrite_0 h hM hl hok b hbl hs hr
    · exact mrewrite_k h hM hl hok k hk b hbl hs (chk_rel (by rw [decide_eq_true hk] at hs; exact hs))
  · have e : m.rewrite k b = (m, chk [52, 57] (decide (k ≠ 0)) 3 3 m.rel m.mode) := by unfold R.M.rewrite; rw [if_pos hs]
    rw [e]
    exact mchg_shut h k _ false _ (by simp) hs
theorem mdelete_any (h : MdR w q M m) (hM : ∀ k, M k → k < w.heap.size) (hl : m.rows.length ≤ 1000000) (hok : R.RowsOk m.rows) (k : Int) :
    Calls Tryz.prog 51 #[.pointer (some ⟨q, 0, none⟩), .int .i64 k, .string ⟨#[]⟩, .bool true] w fun e w' => e = .returned (.string ⟨(m.delete k).2.toArray⟩) ∧ MR w q M (m.delete k).1 w' := by
  by_cases hs : chk [52, 57] true 3 3 m.rel m.mode = R.good
  · by_cases hk : k = 0
    · subst hk
      exact mdelete_0 h hM hl hok hs (chk_rel hs)
    · exact mdelete_k h hM hl hok k hk hs (chk_rel hs)
  · have e : m.delete k = (m, chk [52, 57] true 3 3 m.rel m.mode) := by unfold R.M.delete; rw [if_pos hs]
    rw [e]
    exact mchg_shut h k _ true _ (by simp) hs
end
end Go.Proofs.YtjbepnkchoaipaaGreat
/- Law 31: the law's model: read, whole. -/
namespace Go.Proofs.YtjbepnkchoaipaaGreat
open Go.RowKit Go.Lib Go.Maps Go.WideMaps Go.Sort
set_option maxRecDepth 100000
section
variable {w w' : World} {q : Nat} {M : Nat → Prop} {m : R.M}
theorem mnext_any (h : MdR w q M m) (hl : m.rows.length ≤ 1000000) (hok : R.RowsOk m.rows) :
    Calls Tryz.prog 49 #[.pointer (some ⟨q, 0, none⟩), .bool true, .int .i64 0] w fun e w' => ∃ v, e = .returned (.tuple #[v, .int .i64 ((m.nextR.2.1.map (·.1)).getD 0 : Nat), .string ⟨m.nextR.2.2.toArray⟩]) ∧ Sl w' NoM v ((m.nextR.2.1.map (·.2)).getD []) ∧ MR w q M m.nextR.1 w' := by
  unfold R.M.nextR
  by_cases hs : chk [52, 55] false 1 3 m.rel m.mode = R.good
  · rw [if_neg (Decidable.not_not.2 hs)]
    by_cases h0 : m.next = 0
    · rw [if_pos h0]
      refine (mread_next_lost h hs h0).mono ?_
      rintro e w1 ⟨rfl, h1⟩
      exact ⟨_, rfl, Sl.nil_, h1⟩
    · rw [if_neg h0]
      refine (mread_next_any h hl hok hs h0).mono ?_
      rintro e w1 h1
      have hF : (m.rows.find? (fun r => (fun n : Nat => decide (m.next ≤ n)) r.1)) = m.rows.find? (fun r => decide (m.next ≤ r.1)) := rfl
      rw [hF] at h1
      cases hf : m.rows.find? (fun r => decide (m.next ≤ r.1)) with
      | none =>
        rw [hf] at h1
        obtain ⟨rfl, h2⟩ := h1
        exact ⟨_, rfl, Sl.nil_, h2⟩
      | some r =>
        rw [hf] at h1
        obtain ⟨v, rfl, h2, h3⟩ := h1
        exact ⟨v, rfl, h2, h3⟩
  · rw [if_pos hs]
    refine (mread_next_shut h hs).mono ?_
    rintro e w1 ⟨rfl, rfl⟩
    exact ⟨_, rfl, Sl.nil_, mr_same h⟩
theorem mread_any (h : MdR w q M m) (k : Int) (hl : m.rows.length ≤ 1000000) (hok : R.RowsOk m.rows) :
    Calls Tryz.prog 49 #[.pointer (some ⟨q, 0, none⟩), .bool false, .int .i64 k] w fun e w' => ∃ v z, e = .returned (.tuple #[v, .int .i64 z, .string ⟨(m.readR k).2.2.toArray⟩]) ∧ Sl w' NoM v ((m.readR k).2.1.getD []) ∧ MR w q M (m.readR k).1 w' := by
  unfold R.M.readR
  by_cases hs : chk [52, 55] true 1 3 m.rel m.mode = R.good
  · rw [if_neg (Decidable.not_not.2 hs), lookI_find m.rows hok]
    refine (mread_num_any h k hl hok hs).mono ?_
    rintro e w1 h1
    have hF : (m.rows.find? (fun r => (fun n : Nat => decide ((n : Int) = k)) r.1)) = m.rows.find? (fun r => decide ((r.1 : Int) = k)) := rfl
    rw [hF] at h1
    cases hf : m.rows.find? (fun r => decide ((r.1 : Int) = k)) with
    | none =>
      rw [hf] at h1
      obtain ⟨rfl, h2⟩ := h1
      exact ⟨_, _, rfl, Sl.nil_, h2⟩
    | some r =>
      rw [hf] at h1
      obtain ⟨v, rfl, h2, h3⟩ := h1
      have hr := List.find?_some hf
      have hr : (r.1 : Int) = k := by simpa using hr
      subst hr
      exact ⟨v, _, rfl, h2, h3⟩
  · rw [if_pos hs]
    refine (mread_num_shut h k hs).mono ?_
    rintro e w1 ⟨rfl, rfl⟩
    exact ⟨_, _, rfl, Sl.nil_, mr_same h⟩
end
end Go.Proofs.YtjbepnkchoaipaaGreat
