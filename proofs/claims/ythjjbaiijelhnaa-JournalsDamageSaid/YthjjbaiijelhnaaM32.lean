import Derived.Test.YthjjbaiijelhnaaM31
import Derived.Lib.SlBytesConst
set_option linter.unusedVariables false
set_option linter.unusedSimpArgs false
/- Law 30: the examples of the chapter: lives returns true. -/
namespace Go.Proofs.Ythjjbaiijelhnaa
open Go.RowKit Go.Lib Go.Maps Go.WideMaps Go.Sort
set_option maxRecDepth 100000
theorem lv_sl (w : World) (x : UInt8) (n c : Nat) (o : Nat × Nat) (h : w.heap[n]? = some (.cells #[u8 x] 5 o)) : Sl w NoM (.slice (some ⟨n, 0, none⟩) 1 (c + 1)) [x] :=
  .inr ⟨n, 0, c + 1, rfl, by simp, (Array.getElem?_eq_some_iff.1 h).1, rfl, fun _ => ⟨n, 0, rfl, (Array.getElem?_eq_some_iff.1 h).1, fun h => h, fun j hj => by
    have : j = 0 := by simp at hj; omega
    subst this
    simp [World.cell?, h]⟩⟩
/-- Two stores of the law's own. -/
def AtB (w : World) (p p2 : Nat) (s2 : J.St) (X : World) : Prop := At w p2 s2 X ∧ At w p J.lvD X
theorem AtB.below {w X X' : World} {p p2 : Nat} {s2 : J.St} (h : AtB w p p2 s2 X) (hb : Below X.heap.size X X') : AtB w p p2 s2 X' := ⟨h.1.below hb, h.2.below hb⟩
theorem at_keys2 {w X : World} {p p2 : Nat} {s2 : J.St} (h : AtB w p p2 s2 X) (n : Nat) (hn : (keysOf s2.now ⟨#[]⟩).length = n) (hl : s2.now.length ≤ 1000000) :
    Calls Try.prog 21 #[.pointer (some ⟨p2, 0, none⟩), .string ⟨#[]⟩] X fun e Y => ∃ A, e = .returned (.slice A n n) ∧ AtB w p p2 s2 Y ∧ Below X.heap.size X Y := by
  refine (at_keys h.1 ⟨#[]⟩ hl).mono ?_
  rintro e Y ⟨A, rfl, _, hY, hb⟩
  rw [hn]
  exact ⟨A, rfl, h.below hb, hb⟩
theorem at_image2 {w0 w : World} {p : Nat} {s : J.St} (h : At w0 p s w) : Calls Try.prog 17 #[.pointer (some ⟨p, 0, none⟩)] w fun e w' => ∃ v, e = .returned v ∧ ImgC w' (· < w.heap.size) v s.disk ∧ Below w.heap.size w w' := by
  obtain ⟨M, h1, _, _⟩ := h
  exact image_any p M s w h1
/-- The three places at which the first store is cut. -/
theorem lv_tab (hw : J.WOk J.lvD) (hh : J.Hist True J.lvD 0 [[], [([97], [49]), ([98], [50])], [([98], [50])]] [0, 1, 2]) (j : Nat) (hj : j < 3) :
    ∃ (t idx K : Nat) (now : List (J.B × J.B)), (#[.int .i64 0, .int .i64 16, .int .i64 17] : Array Value)[j]? = some (.int .i64 (t : Nat)) ∧ (#[.int .i64 2, .int .i64 2, .int .i64 1] : Array Value)[j]? = some (.int .i64 (K : Nat)) ∧ (#[.int .i64 1, .int .i64 1, .int .i64 2] : Array Value)[j]? = some (.int .i64 (idx : Nat)) ∧
      (t = 0 ∨ ∃ wr, J.lvD.writes[1]? = some wr ∧ t ≤ wr.bs.length) ∧ (J.cutImg J.lvD 1 t).h0.length ≤ 90000000 ∧ (J.cutImg J.lvD 1 t).h1.length ≤ 90000000 ∧ J.Img.Holds True (J.cutImg J.lvD 1 t) idx now ∧ (keysOf now ⟨#[]⟩).length = K ∧ now.length ≤ 1000000 := by
  have _ := hw
  have key : ∀ (t idx : Nat) (now : List (J.B × J.B)), (t = 0 ∨ ∃ wr, J.lvD.writes[1]? = some wr ∧ t ≤ wr.bs.length) → J.lastIx [0, 1, 2] (J.eff J.lvD 1 t) = idx → ([[], [([97], [49]), ([98], [50])], [([98], [50])]] : List (List (J.B × J.B)))[idx]? = some now → J.Img.Holds True (J.cutImg J.lvD 1 t) idx now := by
    intro t idx now ht e hn
    obtain ⟨now', h1, h2⟩ := hh.holds 1 t (by decide +kernel) ht
    rw [e] at h1 h2
    rw [hn] at h1
    injection h1 with h1
    subst h1
    rw [Nat.zero_add] at h2
    exact h2
  match j, hj with
  | 0, _ => exact ⟨0, 1, 2, [([97], [49]), ([98], [50])], rfl, rfl, rfl, .inl rfl, by decide +kernel, by decide +kernel, key 0 1 _ (.inl rfl) (by decide +kernel) rfl, by decide +kernel, by decide⟩
  | 1, _ => exact ⟨16, 1, 2, [([97], [49]), ([98], [50])], rfl, rfl, rfl, .inr ⟨_, rfl, by decide +kernel⟩, by decide +kernel, by decide +kernel, key 16 1 _ (.inr ⟨_, rfl, by decide +kernel⟩) (by decide +kernel) rfl, by decide +kernel, by decide⟩
  | 2, _ => exact ⟨17, 2, 1, [([98], [50])], rfl, rfl, rfl, .inr ⟨_, rfl, by decide +kernel⟩, by decide +kernel, by decide +kernel, key 17 2 _ (.inr ⟨_, rfl, by decide +kernel⟩) (by decide +kernel) rfl, by decide +kernel, by decide⟩
set_option maxHeartbeats 8000000 in
theorem lives_any (w : World) :
    Calls Try.prog 10 #[] w fun e w' => e = .returned (.bool true) ∧ Below w.heap.size w w' := by
  have kc := fun (w : World) (C : Array Value) (n c : Nat) => Lib.run_convert_bytes_const (P := Try.prog) w 22 5 C n c Try.underlying22 Try.underlying5
  have hfa := run_field_areas
  have hfh := run_field_heads
  have hia := run_index2a
  have hib := run_index2b
  go_enter Try.func10, Try.ntmps10
  go_wp2_with fail
  refine (at_new w _ (Below.refl _ _)).mono ?_
  rintro e w1 ⟨p, rfl, h1⟩
  have H1 := Lib.hid h1
  clear h1
  go_wp2_with fail
  refine (at_begin H1.out rfl).mono ?_
  rintro e w2 ⟨rfl, h2⟩
  have H2 := Lib.hid h2
  clear h2
  go_wp2_with fail
  refine (at_put (s' := J.lv1) (H2.out.below ((Below.refl _ _).alloc (Nat.le_refl _) _)) rfl [97] [49] _ (by decide) (by decide) (by decide) (lv_sl _ 49 _ 0 (1, 2) (heap_alloc_new _ _)) 0 (J.add_room (by decide +kernel))).mono ?_
  rintro e w3 ⟨rfl, h3⟩
  have H3 := Lib.hid h3
  clear h3
  go_wp2_with fail
  refine (at_put (s' := J.lvA) (H3.out.below ((Below.refl _ _).alloc (Nat.le_refl _) _)) rfl [98] [50] _ (by decide) (by decide) (by decide) (lv_sl _ 50 _ 0 (1, 2) (heap_alloc_new _ _)) 0 (J.add_room (by decide +kernel))).mono ?_
  rintro e w4 ⟨rfl, h4⟩
  have H4 := Lib.hid h4
  clear h4
  go_wp2_with fail
  refine (at_commit (s' := J.lvB) H4.out rfl rfl ⟨by decide +kernel, by decide +kernel, by decide +kernel⟩ (by decide +kernel) (by decide +kernel) (by decide +kernel) 1 0 (by kernel_rfl)).mono ?_
  rintro e w5 ⟨rfl, h5⟩
  have H5 := Lib.hid h5
  clear h5
  go_wp2_with fail
  refine (at_begin (s := J.lvB) H5.out rfl).mono ?_
  rintro e w6 ⟨rfl, h6⟩
  have H6 := Lib.hid h6
  clear h6
  go_wp2_with fail
  refine (at_delete (s := J.lv3) (s' := J.lvC) H6.out [97] (by decide) 0 (by kernel_rfl)).mono ?_
  rintro e w7 ⟨rfl, h7⟩
  have H7 := Lib.hid h7
  clear h7
  go_wp2_with fail
  refine (at_commit (s' := J.lvD) H7.out rfl rfl ⟨by decide +kernel, by decide +kernel, by decide +kernel⟩ (by decide +kernel) (by decide +kernel) (by decide +kernel) 2 0 (by kernel_rfl)).mono ?_
  rintro e w8 ⟨rfl, h8⟩
  have H8 := Lib.hid h8
  clear h8
  have hkd := J.lv_D H2.out.ok H3.out.ok H4.out.ok H6.out.ok H7.out.ok H8.out.ok
  have HKD := Lib.hid hkd
  clear hkd
  go_wp2_with fail
  refine (at_keys H8.out ⟨#[]⟩ (by decide +kernel)).mono ?_
  rintro e w9 ⟨A9, rfl, hs9, h9, _⟩
  have hk9 : keysOf J.lvD.now ⟨#[]⟩ = [[98]] := by decide +kernel
  rw [hk9] at hs9 ⊢
  obtain ⟨g9, rfl, hg9, hc9⟩ := hs9 (by decide)
  have hc9' := hc9 0 (by decide)
  have H9 := Lib.hid h9
  clear hs9 hc9 h9
  have hwr := at_writes H9.out
  rw [show J.lvD.writes.length = 2 by decide +kernel] at hwr
  have HWR := Lib.hid hwr
  clear hwr
  go_wp2_with fail
  refine HWR.out.mono ?_
  rintro e w10 ⟨rfl, rfl⟩
  go_wp2_with fail
  refine (at_image H9.out).mono ?_
  rintro e w10 ⟨v10, rfl, hi10, h10⟩
  obtain ⟨i0, i1, i2, i3, rfl, q0, q1, q2, q3⟩ := hi10
  obtain ⟨B0, rfl⟩ := q0.slice_
  obtain ⟨B1, rfl⟩ := q1.slice_
  obtain ⟨B2, rfl⟩ := q2.slice_
  obtain ⟨B3, rfl⟩ := q3.slice_
  rw [show J.lvD.disk.a0.length = 48 by decide +kernel, show J.lvD.disk.a1.length = 0 by decide +kernel, show J.lvD.disk.h0.length = 0 by decide +kernel, show J.lvD.disk.h1.length = 0 by decide +kernel]
  have H10 := Lib.hid h10
  clear h10 q0 q1 q2 q3 hc9' HWR
  go_wp2_with fail
  go_loopw [7] (fun i wr => ∃ j : Nat, j ≤ 3 ∧ i = .int .i64 j ∧ At w p J.lvD wr) (fun i _ => 3 - (intOf i).toNat)
  case atStart => exact ⟨0, by decide, rfl, H10.out⟩
  case round =>
    obtain ⟨j, hj, rfl, hat⟩ := hrel
    have HA := Lib.hid hat
    clear hat

    by_cases hj3 : j < 3
    · have hL := Lib.hid (lv_tab HKD.out.1.wok HKD.out.2.1 j hj3)
      obtain ⟨t, idx, K, now, ht, hK, hI, hk, hsz1, hsz2, hold, hkl, hnl⟩ := hL.out
      have hlt3 : (j : Int) < 3 := by omega
      have hcA := (cell_of_row _ _ j _ _ _ (heap_alloc_new wr (.cells #[.int .i64 0, .int .i64 16, .int .i64 17] 3))).trans ht
      have hcut := at_cut (HA.out.below ((Below.refl _ _).alloc (Nat.le_refl _) (.cells #[.int .i64 0, .int .i64 16, .int .i64 17] 3))) HKD.out.1.wok 1 t (by decide +kernel) hk
      have HSZ := Lib.hid (And.intro hsz1 hsz2)
      have HN2 := Lib.hid hold
      have HCUT := Lib.hid hcut
      have HKI := Lib.hid (And.intro hK hI)
      have HKL := Lib.hid (And.intro hkl hnl)
      clear hcut hold hsz1 hsz2 hk hL ht hK hI hkl hnl
      go_wp2_with fail
      refine HCUT.out.mono ?_
      rintro e w11 ⟨v11, rfl, hi, h11⟩
      obtain ⟨y0, y1, y2, y3, rfl, q0, q1, q2, q3⟩ := hi
      generalize J.cutImg J.lvD 1 t = mm at q0 q1 q2 q3 HSZ HN2
      obtain ⟨C0, rfl⟩ := q0.slice_
      obtain ⟨C1, rfl⟩ := q1.slice_
      obtain ⟨C2, rfl⟩ := q2.slice_
      obtain ⟨C3, rfl⟩ := q3.slice_
      have Q0 := Lib.hid q0
      have Q1 := Lib.hid q1
      have Q2 := Lib.hid q2
      have Q3 := Lib.hid q3
      have H11 := Lib.hid h11
      clear q0 q1 q2 q3 h11 HCUT hcA
      go_wp2_with fail
      have hB := (Below.refl _ w11).alloc (Nat.le_refl _) (.cells #[.slice C0 mm.h0.length mm.h0.length, .slice C1 mm.h1.length mm.h1.length, .slice C2 mm.a0.length mm.a0.length, .slice C3 mm.a1.length mm.a1.length] 35)
      have hrec := at_recover_holds w mm _ _ HN2.out _ _ _ _ _ (H11.out.below hB).bel ((Q0.out.sl.weak (fun _ h => h.elim)).step (Step.of_below hB)) ((Q1.out.sl.weak (fun _ h => h.elim)).step (Step.of_below hB)) ((Q2.out.sl.weak (fun _ h => h.elim)).step (Step.of_below hB)) ((Q3.out.sl.weak (fun _ h => h.elim)).step (Step.of_below hB)) HSZ.out.1 HSZ.out.2
      refine hrec.mono ?_
      clear hrec
      rintro e w12 ⟨p2, at_, rfl, h12, _, _, _, hb12⟩
      have HAB := Lib.hid (show AtB w p p2 (J.recovered mm at_ idx now) w12 from ⟨h12, (H11.out.below hB).below hb12⟩)
      have HKEY := Lib.hid (fun X (hX : AtB w p p2 (J.recovered mm at_ idx now) X) => at_keys2 hX K HKL.out.1 HKL.out.2)
      have hcom := (fun X (hX : AtB w p p2 (J.recovered mm at_ idx now) X) => at_commits hX.1)
      rw [show (J.recovered mm at_ idx now).commits = idx from rfl] at hcom
      have HCOM := Lib.hid hcom
      clear hcom
      generalize J.recovered mm at_ idx now = s2 at HAB HKEY HCOM
      clear h12 hb12 hB Q0 Q1 Q2 Q3 HSZ HN2
      go_wp2_with fail
      refine wp_region_pl 24 (.rd 0 (.rd 1 (.rd 2 (.rd 3 (.rd 4 (.rd 5 (.rd 6 (.rd 7 (.rd 11 (.two 8 (.rd 9 (.wr 10 (.rd 12 (.wr 13 (.rd 14 (.rd 15 (.rd 16 (.rd 17 (.rd 20 (.two 18 (.wr 19 (.rd 21 (.wr 22 (.rd 23 .fin)))) 19 (.rd 21 (.two 18 (.wr 22 (.rd 23 .fin)) 22 (.wr 18 (.rd 23 .fin)))))))))))))) 10 (.rd 12 (.two 8 (.rd 9 (.wr 13 (.rd 14 (.rd 15 (.rd 16 (.rd 17 (.rd 20 (.two 18 (.wr 19 (.rd 21 (.wr 22 (.rd 23 .fin)))) 19 (.rd 21 (.two 18 (.wr 22 (.rd 23 .fin)) 22 (.wr 18 (.rd 23 .fin)))))))))))) 13 (.wr 8 (.rd 9 (.rd 14 (.rd 15 (.rd 16 (.rd 17 (.rd 20 (.two 18 (.wr 19 (.rd 21 (.wr 22 (.rd 23 .fin)))) 19 (.rd 21 (.two 18 (.wr 22 (.rd 23 .fin)) 22 (.wr 18 (.rd 23 .fin)))))))))))))))))))))))) (fun _ => True) (by kernel_rfl) (by kernel_rfl) (fun c a d v w h => by cases d <;> exact h) trivial ?_
      repeat
        refine wpPl_readG (v := ?_) (by rfl) (by rfl) (fun w' _ => ?_) (fun K hK => ?_)
        rotate_left
        · go_simp
          try with_reducible rfl
        go_simp
        refine hK _ ?_
        clear hK K
      refine at_world (fun X => AtB w p p2 s2 X) (HAB.out.below (Below.refl _ _).drew) ?_
      rintro X0 ha0
      have HA0 := Lib.hid ha0
      clear ha0
      refine wpPl_two (by rfl) (by rfl) (fun K hK => ?_) (fun K hK => ?_)
      · go_simp
        refine (HKEY.out _ HA0.out).mono ?_
        rintro e X1 ⟨A1, rfl, ha1, hb1⟩
        have HA1 := Lib.hid ha1
        clear ha1 hb1
        refine hK.out _ _ trivial ?_
        clear hK K
        repeat
          refine wpPl_readG (v := ?_) (by rfl) (by rfl) (fun w' _ => ?_) (fun K hK => ?_)
          rotate_left
          · go_simp
            try with_reducible rfl
          go_simp
          refine hK _ ?_
          clear hK K
        refine wpPl_write (by rfl) (fun K hK => ?_)
        go_simp
        refine hK.out _ _ trivial ?_
        clear hK K
        refine at_world (fun X => AtB w p p2 s2 X ∧ X.cell? ⟨X1.heap.size, j, none⟩ = some (.int .i64 (K : Nat)) ∧ Below X1.heap.size X1 X ∧ X1.heap.size < X.heap.size) ⟨HA1.out.below ((Below.refl _ _).alloc (Nat.le_refl _) _), (cell_of_row _ _ j _ _ _ (heap_alloc_new _ _)).trans HKI.out.1, (Below.refl _ _).alloc (Nat.le_refl _) _, by simp⟩ ?_
        rintro X2 ⟨ha2, hc2, hb2, hl2⟩
        have HA2 := Lib.hid ha2
        have HL2 := Lib.hid hl2
        clear ha2 hb2 hl2
        repeat
          refine wpPl_readG (v := ?_) (by rfl) (by rfl) (fun w' _ => ?_) (fun K hK => ?_)
          rotate_left
          · go_simp
            try with_reducible rfl
          go_simp
          refine hK _ ?_
          clear hK K
        refine wpPl_write (by rfl) (fun K hK => ?_)
        go_simp
        refine hK.out _ _ trivial ?_
        clear hK K
        repeat
          refine wpPl_readG (v := ?_) (by rfl) (by rfl) (fun w' _ => ?_) (fun K hK => ?_)
          rotate_left
          · go_simp
            try with_reducible rfl
          go_simp
          refine hK _ ?_
          clear hK K
        refine wpPl_two (by rfl) (by rfl) (fun K hK => ?_) (fun K hK => ?_)
        · go_simp
          refine (HCOM.out _ HA2.out).mono ?_
          rintro e Y3 ⟨rfl, hY3⟩
          obtain rfl : X2 = Y3 := hY3
          refine hK.out _ _ trivial ?_
          clear hK K
          repeat
            refine wpPl_readG (v := ?_) (by rfl) (by rfl) (fun w' _ => ?_) (fun K hK => ?_)
            rotate_left
            · go_simp
              try with_reducible rfl
            go_simp
            refine hK _ ?_
            clear hK K
          refine wpPl_write (by rfl) (fun K hK => ?_)
          go_simp
          refine hK.out _ _ trivial ?_
          clear hK K
          refine at_world (fun X => AtB w p p2 s2 X ∧ X.cell? ⟨X2.heap.size, j, none⟩ = some (.int .i64 (idx : Nat)) ∧ Below X2.heap.size X2 X ∧ X2.heap.size < X.heap.size) ⟨HA2.out.below ((Below.refl _ _).alloc (Nat.le_refl _) _), (cell_of_row _ _ j _ _ _ (heap_alloc_new _ _)).trans HKI.out.2, (Below.refl _ _).alloc (Nat.le_refl _) _, by simp⟩ ?_
          rintro X4 ⟨ha4, hc4, hb4, hl4⟩
          have hc24 := (hb4.cell (p := ⟨X1.heap.size, j, none⟩) HL2.out).trans hc2
          have HL24 := Lib.hid (Nat.lt_of_lt_of_le HL2.out hb4.size)
          clear hc2 HL2
          have HA4 := Lib.hid ha4
          have HL4 := Lib.hid hl4
          clear ha4 hb4 hl4
          repeat
            refine wpPl_readG (v := ?_) (by rfl) (by rfl) (fun w' _ => ?_) (fun K hK => ?_)
            rotate_left
            · go_simp
              try with_reducible rfl
            go_simp
            refine hK _ ?_
            clear hK K
          refine wpPl_write (by rfl) (fun K hK => ?_)
          go_simp
          refine hK.out _ _ trivial ?_
          clear hK K
          repeat
            refine wpPl_readG (v := ?_) (by rfl) (by rfl) (fun w' _ => ?_) (fun K hK => ?_)
            rotate_left
            · go_simp
              try with_reducible rfl
            go_simp
            refine hK _ ?_
            clear hK K
          show wpList _ _ _ _ _ _
          go_wp2_with fail
          go_roundw
          case rel => exact ⟨j + 1, by omega, by go_num, HA4.out.2⟩
          case measure => simp [intOf]; omega
        · go_simp
          refine hK.out _ _ trivial ?_
          clear hK K
          refine at_world (fun X => AtB w p p2 s2 X ∧ X.cell? ⟨X2.heap.size, j, none⟩ = some (.int .i64 (idx : Nat)) ∧ Below X2.heap.size X2 X ∧ X2.heap.size < X.heap.size) ⟨HA2.out.below ((Below.refl _ _).alloc (Nat.le_refl _) _), (cell_of_row _ _ j _ _ _ (heap_alloc_new _ _)).trans HKI.out.2, (Below.refl _ _).alloc (Nat.le_refl _) _, by simp⟩ ?_
          rintro X5 ⟨ha5, hc5, hb5, hl5⟩
          have hc25 := (hb5.cell (p := ⟨X1.heap.size, j, none⟩) HL2.out).trans hc2
          have HL25 := Lib.hid (Nat.lt_of_lt_of_le HL2.out hb5.size)
          clear hc2 HL2
          have HA5 := Lib.hid ha5
          have HL5 := Lib.hid hl5
          clear ha5 hb5 hl5
          repeat
            refine wpPl_readG (v := ?_) (by rfl) (by rfl) (fun w' _ => ?_) (fun K hK => ?_)
            rotate_left
            · go_simp
              try with_reducible rfl
            go_simp
            refine hK _ ?_
            clear hK K
          refine wpPl_two (by rfl) (by rfl) (fun K hK => ?_) (fun K hK => ?_)
          · go_simp
            refine (HCOM.out _ HA5.out).mono ?_
            rintro e Y6 ⟨rfl, hY6⟩
            obtain rfl : X5 = Y6 := hY6
            refine hK.out _ _ trivial ?_
            clear hK K
            repeat
              refine wpPl_readG (v := ?_) (by rfl) (by rfl) (fun w' _ => ?_) (fun K hK => ?_)
              rotate_left
              · go_simp
                try with_reducible rfl
              go_simp
              refine hK _ ?_
              clear hK K
            refine wpPl_write (by rfl) (fun K hK => ?_)
            go_simp
            refine hK.out _ _ trivial ?_
            clear hK K
            repeat
              refine wpPl_readG (v := ?_) (by rfl) (by rfl) (fun w' _ => ?_) (fun K hK => ?_)
              rotate_left
              · go_simp
                try with_reducible rfl
              go_simp
              refine hK _ ?_
              clear hK K
            show wpList _ _ _ _ _ _
            go_wp2_with fail
            go_roundw
            case rel => exact ⟨j + 1, by omega, by go_num, HA5.out.2⟩
            case measure => simp [intOf]; omega
          · go_simp
            refine hK.out _ _ trivial ?_
            clear hK K
            repeat
              refine wpPl_readG (v := ?_) (by rfl) (by rfl) (fun w' _ => ?_) (fun K hK => ?_)
              rotate_left
              · go_simp
                try with_reducible rfl
              go_simp
              refine hK _ ?_
              clear hK K
            refine wpPl_write (by rfl) (fun K hK => ?_)
            go_simp
            refine (HCOM.out _ HA5.out).mono ?_
            rintro e Y7 ⟨rfl, hY7⟩
            obtain rfl : X5 = Y7 := hY7
            refine hK.out _ _ trivial ?_
            clear hK K
            repeat
              refine wpPl_readG (v := ?_) (by rfl) (by rfl) (fun w' _ => ?_) (fun K hK => ?_)
              rotate_left
              · go_simp
                try with_reducible rfl
              go_simp
              refine hK _ ?_
              clear hK K
            show wpList _ _ _ _ _ _
            go_wp2_with fail
            go_roundw
            case rel => exact ⟨j + 1, by omega, by go_num, HA5.out.2⟩
            case measure => simp [intOf]; omega
      · go_simp
        refine hK.out _ _ trivial ?_
        clear hK K
        refine at_world (fun X => AtB w p p2 s2 X ∧ X.cell? ⟨X0.heap.size, j, none⟩ = some (.int .i64 (K : Nat)) ∧ Below X0.heap.size X0 X ∧ X0.heap.size < X.heap.size) ⟨HA0.out.below ((Below.refl _ _).alloc (Nat.le_refl _) _), (cell_of_row _ _ j _ _ _ (heap_alloc_new _ _)).trans HKI.out.1, (Below.refl _ _).alloc (Nat.le_refl _) _, by simp⟩ ?_
        rintro X8 ⟨ha8, hc8, hb8, hl8⟩
        have HA8 := Lib.hid ha8
        have HL8 := Lib.hid hl8
        clear ha8 hb8 hl8
        repeat
          refine wpPl_readG (v := ?_) (by rfl) (by rfl) (fun w' _ => ?_) (fun K hK => ?_)
          rotate_left
          · go_simp
            try with_reducible rfl
          go_simp
          refine hK _ ?_
          clear hK K
        refine wpPl_two (by rfl) (by rfl) (fun K hK => ?_) (fun K hK => ?_)
        · go_simp
          refine (HKEY.out _ HA8.out).mono ?_
          rintro e X9 ⟨A9, rfl, ha9, hb9⟩
          have hc89 := (hb9.cell (p := ⟨X0.heap.size, j, none⟩) HL8.out).trans hc8
          have HL89 := Lib.hid (Nat.lt_of_lt_of_le HL8.out hb9.size)
          clear hc8 HL8
          have HA9 := Lib.hid ha9
          clear ha9 hb9
          refine hK.out _ _ trivial ?_
          clear hK K
          repeat
            refine wpPl_readG (v := ?_) (by rfl) (by rfl) (fun w' _ => ?_) (fun K hK => ?_)
            rotate_left
            · go_simp
              try with_reducible rfl
            go_simp
            refine hK _ ?_
            clear hK K
          refine wpPl_write (by rfl) (fun K hK => ?_)
          go_simp
          refine hK.out _ _ trivial ?_
          clear hK K
          repeat
            refine wpPl_readG (v := ?_) (by rfl) (by rfl) (fun w' _ => ?_) (fun K hK => ?_)
            rotate_left
            · go_simp
              try with_reducible rfl
            go_simp
            refine hK _ ?_
            clear hK K
          refine wpPl_two (by rfl) (by rfl) (fun K hK => ?_) (fun K hK => ?_)
          · go_simp
            refine (HCOM.out _ HA9.out).mono ?_
            rintro e Y10 ⟨rfl, hY10⟩
            obtain rfl : X9 = Y10 := hY10
            refine hK.out _ _ trivial ?_
            clear hK K
            repeat
              refine wpPl_readG (v := ?_) (by rfl) (by rfl) (fun w' _ => ?_) (fun K hK => ?_)
              rotate_left
              · go_simp
                try with_reducible rfl
              go_simp
              refine hK _ ?_
              clear hK K
            refine wpPl_write (by rfl) (fun K hK => ?_)
            go_simp
            refine hK.out _ _ trivial ?_
            clear hK K
            refine at_world (fun X => AtB w p p2 s2 X ∧ X.cell? ⟨X9.heap.size, j, none⟩ = some (.int .i64 (idx : Nat)) ∧ Below X9.heap.size X9 X ∧ X9.heap.size < X.heap.size) ⟨HA9.out.below ((Below.refl _ _).alloc (Nat.le_refl _) _), (cell_of_row _ _ j _ _ _ (heap_alloc_new _ _)).trans HKI.out.2, (Below.refl _ _).alloc (Nat.le_refl _) _, by simp⟩ ?_
            rintro X11 ⟨ha11, hc11, hb11, hl11⟩
            have hc8911 := (hb11.cell (p := ⟨X0.heap.size, j, none⟩) HL89.out).trans hc89
            have HL8911 := Lib.hid (Nat.lt_of_lt_of_le HL89.out hb11.size)
            clear hc89 HL89
            have HA11 := Lib.hid ha11
            have HL11 := Lib.hid hl11
            clear ha11 hb11 hl11
            repeat
              refine wpPl_readG (v := ?_) (by rfl) (by rfl) (fun w' _ => ?_) (fun K hK => ?_)
              rotate_left
              · go_simp
                try with_reducible rfl
              go_simp
              refine hK _ ?_
              clear hK K
            refine wpPl_write (by rfl) (fun K hK => ?_)
            go_simp
            refine hK.out _ _ trivial ?_
            clear hK K
            repeat
              refine wpPl_readG (v := ?_) (by rfl) (by rfl) (fun w' _ => ?_) (fun K hK => ?_)
              rotate_left
              · go_simp
                try with_reducible rfl
              go_simp
              refine hK _ ?_
              clear hK K
            show wpList _ _ _ _ _ _
            go_wp2_with fail
            go_roundw
            case rel => exact ⟨j + 1, by omega, by go_num, HA11.out.2⟩
            case measure => simp [intOf]; omega
          · go_simp
            refine hK.out _ _ trivial ?_
            clear hK K
            refine at_world (fun X => AtB w p p2 s2 X ∧ X.cell? ⟨X9.heap.size, j, none⟩ = some (.int .i64 (idx : Nat)) ∧ Below X9.heap.size X9 X ∧ X9.heap.size < X.heap.size) ⟨HA9.out.below ((Below.refl _ _).alloc (Nat.le_refl _) _), (cell_of_row _ _ j _ _ _ (heap_alloc_new _ _)).trans HKI.out.2, (Below.refl _ _).alloc (Nat.le_refl _) _, by simp⟩ ?_
            rintro X12 ⟨ha12, hc12, hb12, hl12⟩
            have hc8912 := (hb12.cell (p := ⟨X0.heap.size, j, none⟩) HL89.out).trans hc89
            have HL8912 := Lib.hid (Nat.lt_of_lt_of_le HL89.out hb12.size)
            clear hc89 HL89
            have HA12 := Lib.hid ha12
            have HL12 := Lib.hid hl12
            clear ha12 hb12 hl12
            repeat
              refine wpPl_readG (v := ?_) (by rfl) (by rfl) (fun w' _ => ?_) (fun K hK => ?_)
              rotate_left
              · go_simp
                try with_reducible rfl
              go_simp
              refine hK _ ?_
              clear hK K
            refine wpPl_two (by rfl) (by rfl) (fun K hK => ?_) (fun K hK => ?_)
            · go_simp
              refine (HCOM.out _ HA12.out).mono ?_
              rintro e Y13 ⟨rfl, hY13⟩
              obtain rfl : X12 = Y13 := hY13
              refine hK.out _ _ trivial ?_
              clear hK K
              repeat
                refine wpPl_readG (v := ?_) (by rfl) (by rfl) (fun w' _ => ?_) (fun K hK => ?_)
                rotate_left
                · go_simp
                  try with_reducible rfl
                go_simp
                refine hK _ ?_
                clear hK K
              refine wpPl_write (by rfl) (fun K hK => ?_)
              go_simp
              refine hK.out _ _ trivial ?_
              clear hK K
              repeat
                refine wpPl_readG (v := ?_) (by rfl) (by rfl) (fun w' _ => ?_) (fun K hK => ?_)
                rotate_left
                · go_simp
                  try with_reducible rfl
                go_simp
                refine hK _ ?_
                clear hK K
              show wpList _ _ _ _ _ _
              go_wp2_with fail
              go_roundw
              case rel => exact ⟨j + 1, by omega, by go_num, HA12.out.2⟩
              case measure => simp [intOf]; omega
            · go_simp
              refine hK.out _ _ trivial ?_
              clear hK K
              repeat
                refine wpPl_readG (v := ?_) (by rfl) (by rfl) (fun w' _ => ?_) (fun K hK => ?_)
                rotate_left
                · go_simp
                  try with_reducible rfl
                go_simp
                refine hK _ ?_
                clear hK K
              refine wpPl_write (by rfl) (fun K hK => ?_)
              go_simp
              refine (HCOM.out _ HA12.out).mono ?_
              rintro e Y14 ⟨rfl, hY14⟩
              obtain rfl : X12 = Y14 := hY14
              refine hK.out _ _ trivial ?_
              clear hK K
              repeat
                refine wpPl_readG (v := ?_) (by rfl) (by rfl) (fun w' _ => ?_) (fun K hK => ?_)
                rotate_left
                · go_simp
                  try with_reducible rfl
                go_simp
                refine hK _ ?_
                clear hK K
              show wpList _ _ _ _ _ _
              go_wp2_with fail
              go_roundw
              case rel => exact ⟨j + 1, by omega, by go_num, HA12.out.2⟩
              case measure => simp [intOf]; omega
        · go_simp
          refine hK.out _ _ trivial ?_
          clear hK K
          repeat
            refine wpPl_readG (v := ?_) (by rfl) (by rfl) (fun w' _ => ?_) (fun K hK => ?_)
            rotate_left
            · go_simp
              try with_reducible rfl
            go_simp
            refine hK _ ?_
            clear hK K
          refine wpPl_write (by rfl) (fun K hK => ?_)
          go_simp
          refine (HKEY.out _ HA8.out).mono ?_
          rintro e X15 ⟨A15, rfl, ha15, hb15⟩
          have hc815 := (hb15.cell (p := ⟨X0.heap.size, j, none⟩) HL8.out).trans hc8
          have HL815 := Lib.hid (Nat.lt_of_lt_of_le HL8.out hb15.size)
          clear hc8 HL8
          have HA15 := Lib.hid ha15
          clear ha15 hb15
          refine hK.out _ _ trivial ?_
          clear hK K
          repeat
            refine wpPl_readG (v := ?_) (by rfl) (by rfl) (fun w' _ => ?_) (fun K hK => ?_)
            rotate_left
            · go_simp
              try with_reducible rfl
            go_simp
            refine hK _ ?_
            clear hK K
          refine wpPl_two (by rfl) (by rfl) (fun K hK => ?_) (fun K hK => ?_)
          · go_simp
            refine (HCOM.out _ HA15.out).mono ?_
            rintro e Y16 ⟨rfl, hY16⟩
            obtain rfl : X15 = Y16 := hY16
            refine hK.out _ _ trivial ?_
            clear hK K
            repeat
              refine wpPl_readG (v := ?_) (by rfl) (by rfl) (fun w' _ => ?_) (fun K hK => ?_)
              rotate_left
              · go_simp
                try with_reducible rfl
              go_simp
              refine hK _ ?_
              clear hK K
            refine wpPl_write (by rfl) (fun K hK => ?_)
            go_simp
            refine hK.out _ _ trivial ?_
            clear hK K
            refine at_world (fun X => AtB w p p2 s2 X ∧ X.cell? ⟨X15.heap.size, j, none⟩ = some (.int .i64 (idx : Nat)) ∧ Below X15.heap.size X15 X ∧ X15.heap.size < X.heap.size) ⟨HA15.out.below ((Below.refl _ _).alloc (Nat.le_refl _) _), (cell_of_row _ _ j _ _ _ (heap_alloc_new _ _)).trans HKI.out.2, (Below.refl _ _).alloc (Nat.le_refl _) _, by simp⟩ ?_
            rintro X17 ⟨ha17, hc17, hb17, hl17⟩
            have hc81517 := (hb17.cell (p := ⟨X0.heap.size, j, none⟩) HL815.out).trans hc815
            have HL81517 := Lib.hid (Nat.lt_of_lt_of_le HL815.out hb17.size)
            clear hc815 HL815
            have HA17 := Lib.hid ha17
            have HL17 := Lib.hid hl17
            clear ha17 hb17 hl17
            repeat
              refine wpPl_readG (v := ?_) (by rfl) (by rfl) (fun w' _ => ?_) (fun K hK => ?_)
              rotate_left
              · go_simp
                try with_reducible rfl
              go_simp
              refine hK _ ?_
              clear hK K
            refine wpPl_write (by rfl) (fun K hK => ?_)
            go_simp
            refine hK.out _ _ trivial ?_
            clear hK K
            repeat
              refine wpPl_readG (v := ?_) (by rfl) (by rfl) (fun w' _ => ?_) (fun K hK => ?_)
              rotate_left
              · go_simp
                try with_reducible rfl
              go_simp
              refine hK _ ?_
              clear hK K
            show wpList _ _ _ _ _ _
            go_wp2_with fail
            go_roundw
            case rel => exact ⟨j + 1, by omega, by go_num, HA17.out.2⟩
            case measure => simp [intOf]; omega
          · go_simp
            refine hK.out _ _ trivial ?_
            clear hK K
            refine at_world (fun X => AtB w p p2 s2 X ∧ X.cell? ⟨X15.heap.size, j, none⟩ = some (.int .i64 (idx : Nat)) ∧ Below X15.heap.size X15 X ∧ X15.heap.size < X.heap.size) ⟨HA15.out.below ((Below.refl _ _).alloc (Nat.le_refl _) _), (cell_of_row _ _ j _ _ _ (heap_alloc_new _ _)).trans HKI.out.2, (Below.refl _ _).alloc (Nat.le_refl _) _, by simp⟩ ?_
            rintro X18 ⟨ha18, hc18, hb18, hl18⟩
            have hc81518 := (hb18.cell (p := ⟨X0.heap.size, j, none⟩) HL815.out).trans hc815
            have HL81518 := Lib.hid (Nat.lt_of_lt_of_le HL815.out hb18.size)
            clear hc815 HL815
            have HA18 := Lib.hid ha18
            have HL18 := Lib.hid hl18
            clear ha18 hb18 hl18
            repeat
              refine wpPl_readG (v := ?_) (by rfl) (by rfl) (fun w' _ => ?_) (fun K hK => ?_)
              rotate_left
              · go_simp
                try with_reducible rfl
              go_simp
              refine hK _ ?_
              clear hK K
            refine wpPl_two (by rfl) (by rfl) (fun K hK => ?_) (fun K hK => ?_)
            · go_simp
              refine (HCOM.out _ HA18.out).mono ?_
              rintro e Y19 ⟨rfl, hY19⟩
              obtain rfl : X18 = Y19 := hY19
              refine hK.out _ _ trivial ?_
              clear hK K
              repeat
                refine wpPl_readG (v := ?_) (by rfl) (by rfl) (fun w' _ => ?_) (fun K hK => ?_)
                rotate_left
                · go_simp
                  try with_reducible rfl
                go_simp
                refine hK _ ?_
                clear hK K
              refine wpPl_write (by rfl) (fun K hK => ?_)
              go_simp
              refine hK.out _ _ trivial ?_
              clear hK K
              repeat
                refine wpPl_readG (v := ?_) (by rfl) (by rfl) (fun w' _ => ?_) (fun K hK => ?_)
                rotate_left
                · go_simp
                  try with_reducible rfl
                go_simp
                refine hK _ ?_
                clear hK K
              show wpList _ _ _ _ _ _
              go_wp2_with fail
              go_roundw
              case rel => exact ⟨j + 1, by omega, by go_num, HA18.out.2⟩
              case measure => simp [intOf]; omega
            · go_simp
              refine hK.out _ _ trivial ?_
              clear hK K
              repeat
                refine wpPl_readG (v := ?_) (by rfl) (by rfl) (fun w' _ => ?_) (fun K hK => ?_)
                rotate_left
                · go_simp
                  try with_reducible rfl
                go_simp
                refine hK _ ?_
                clear hK K
              refine wpPl_write (by rfl) (fun K hK => ?_)
              go_simp
              refine (HCOM.out _ HA18.out).mono ?_
              rintro e Y20 ⟨rfl, hY20⟩
              obtain rfl : X18 = Y20 := hY20
              refine hK.out _ _ trivial ?_
              clear hK K
              repeat
                refine wpPl_readG (v := ?_) (by rfl) (by rfl) (fun w' _ => ?_) (fun K hK => ?_)
                rotate_left
                · go_simp
                  try with_reducible rfl
                go_simp
                refine hK _ ?_
                clear hK K
              show wpList _ _ _ _ _ _
              go_wp2_with fail
              go_roundw
              case rel => exact ⟨j + 1, by omega, by go_num, HA18.out.2⟩
              case measure => simp [intOf]; omega
    · obtain rfl : j = 3 := by omega
      go_wp2_with fail
      refine (at_compact (s' := J.lvE) HA.out rfl ⟨by decide +kernel, by decide +kernel, by decide +kernel⟩ 0 (by kernel_rfl)).mono ?_
      rintro e w20 ⟨rfl, h20⟩
      have hwr := at_writes h20
      rw [show J.lvE.writes.length = 5 by decide +kernel] at hwr
      have HWR := Lib.hid hwr
      have H20 := Lib.hid h20
      clear hwr h20
      go_wp2_with fail
      refine HWR.out.mono ?_
      rintro e Y ⟨rfl, hY⟩
      obtain rfl : w20 = Y := hY
      go_wp2_with fail
      clear HA
      go_loopw [12] (fun i wr => ∃ j : Nat, 23 ≤ j ∧ j ≤ 25 ∧ i = .int .i64 j ∧ At w p J.lvE wr) (fun i _ => 25 - (intOf i).toNat)
      case atStart => exact ⟨23, by decide, by decide, rfl, H20.out⟩
      case round =>
        obtain ⟨j, hj1, hj2, rfl, hat⟩ := hrel
        have HA := Lib.hid hat
        clear hat
        rcases (show j = 23 ∨ j = 24 ∨ j = 25 by omega) with rfl | rfl | rfl
        · have hlt25 : (23 : Int) < 25 := by omega
          obtain ⟨now, hn1, hn2⟩ := HKD.out.2.2.2.holds 4 23 (by decide +kernel) (.inr ⟨_, rfl, by decide +kernel⟩)
          rw [show J.lastIx [0, 1, 2] (J.eff J.lvE 4 23) = 2 by decide +kernel] at hn1 hn2
          injection hn1 with hn1
          subst hn1
          have HN2 := Lib.hid hn2
          have HSZ := Lib.hid (show (J.cutImg J.lvE 4 23).h0.length ≤ 90000000 ∧ (J.cutImg J.lvE 4 23).h1.length ≤ 90000000 by decide +kernel)
          have HH0 := Lib.hid (show (if J.valid (J.cutImg J.lvE 4 23).h0 = none then [] else (J.cutImg J.lvE 4 23).h0).length = 0 by decide +kernel)
          have HCUT := Lib.hid (at_cut HA.out HKD.out.2.2.1.wok 4 23 (by decide +kernel) (.inr ⟨_, rfl, by decide +kernel⟩))
          clear hn2
          go_wp2_with fail
          refine HCUT.out.mono ?_
          rintro e w11 ⟨v11, rfl, hi, h11⟩
          obtain ⟨y0, y1, y2, y3, rfl, q0, q1, q2, q3⟩ := hi
          generalize J.cutImg J.lvE 4 23 = mm at q0 q1 q2 q3 HSZ HN2 HH0
          obtain ⟨C0, rfl⟩ := q0.slice_
          obtain ⟨C1, rfl⟩ := q1.slice_
          obtain ⟨C2, rfl⟩ := q2.slice_
          obtain ⟨C3, rfl⟩ := q3.slice_
          have Q0 := Lib.hid q0
          have Q1 := Lib.hid q1
          have Q2 := Lib.hid q2
          have Q3 := Lib.hid q3
          have H11 := Lib.hid h11
          clear q0 q1 q2 q3 h11 HCUT
          go_wp2_with fail
          have hB := (Below.refl _ w11).alloc (Nat.le_refl _) (.cells #[.slice C0 mm.h0.length mm.h0.length, .slice C1 mm.h1.length mm.h1.length, .slice C2 mm.a0.length mm.a0.length, .slice C3 mm.a1.length mm.a1.length] 35)
          have hrec := at_recover_holds w mm _ _ HN2.out _ _ _ _ _ (H11.out.below hB).bel ((Q0.out.sl.weak (fun _ h => h.elim)).step (Step.of_below hB)) ((Q1.out.sl.weak (fun _ h => h.elim)).step (Step.of_below hB)) ((Q2.out.sl.weak (fun _ h => h.elim)).step (Step.of_below hB)) ((Q3.out.sl.weak (fun _ h => h.elim)).step (Step.of_below hB)) HSZ.out.1 HSZ.out.2
          refine hrec.mono ?_
          clear hrec
          rintro e w12 ⟨p2, at_, rfl, h12, _, _, _, hb12⟩
          have hE12 := (H11.out.below hB).below hb12
          have hkey := at_keys h12 ⟨#[]⟩ (by show ([([98], [50])] : List (J.B × J.B)).length ≤ 1000000; decide +kernel)
          rw [show (keysOf (J.recovered mm at_ (0 + 2) [([98], [50])]).now ⟨#[]⟩).length = 1 from by show (keysOf [([98], [50])] ⟨#[]⟩).length = 1; decide +kernel] at hkey
          have HKEY := Lib.hid hkey
          have HCM := Lib.hid (show (J.recovered mm at_ (0 + 2) [([98], [50])]).commits = 2 from rfl)
          have HHL := Lib.hid (show (J.recovered mm at_ (0 + 2) [([98], [50])]).disk.h0.length = 0 from HH0.out)
          have HE12 := Lib.hid hE12
          have H12 := Lib.hid h12
          generalize J.recovered mm at_ (0 + 2) [([98], [50])] = s2 at HKEY HCM HHL H12
          clear hkey h12 hb12 hB hE12 Q0 Q1 Q2 Q3 HSZ HN2 HH0
          go_wp2_with fail
          refine HKEY.out.mono ?_
          rintro e w13 ⟨A13, rfl, _, h13, hb13⟩
          have hcom := at_commits h13
          rw [HCM.out] at hcom
          have HCOM := Lib.hid hcom
          have H13 := Lib.hid h13
          have HE13 := Lib.hid (HE12.out.below hb13)
          clear hcom h13 hb13
          go_wp2_with fail
          refine HCOM.out.mono ?_
          rintro e Y ⟨rfl, hY⟩
          obtain rfl : w13 = Y := hY
          go_wp2_with fail
          refine (at_image2 H13.out).mono ?_
          rintro e w14 ⟨v14, rfl, hi14, hb14⟩
          obtain ⟨i0, i1, i2, i3, rfl, q0, q1, q2, q3⟩ := hi14
          obtain ⟨D0, rfl⟩ := q0.slice_
          obtain ⟨D1, rfl⟩ := q1.slice_
          obtain ⟨D2, rfl⟩ := q2.slice_
          obtain ⟨D3, rfl⟩ := q3.slice_
          rw [HHL.out]
          have HE14 := Lib.hid (HE13.out.below hb14)
          clear q0 q1 q2 q3 hb14
          go_wp2_with fail
          go_roundw
          case rel => exact ⟨23 + 1, by decide, by decide, rfl, HE14.out⟩
          case measure => decide
        · have hlt25 : (24 : Int) < 25 := by omega
          obtain ⟨now, hn1, hn2⟩ := HKD.out.2.2.2.holds 4 24 (by decide +kernel) (.inr ⟨_, rfl, by decide +kernel⟩)
          rw [show J.lastIx [0, 1, 2] (J.eff J.lvE 4 24) = 2 by decide +kernel] at hn1 hn2
          injection hn1 with hn1
          subst hn1
          have HN2 := Lib.hid hn2
          have HSZ := Lib.hid (show (J.cutImg J.lvE 4 24).h0.length ≤ 90000000 ∧ (J.cutImg J.lvE 4 24).h1.length ≤ 90000000 by decide +kernel)
          have HH0 := Lib.hid (show (if J.valid (J.cutImg J.lvE 4 24).h0 = none then [] else (J.cutImg J.lvE 4 24).h0).length = 24 by decide +kernel)
          have HCUT := Lib.hid (at_cut HA.out HKD.out.2.2.1.wok 4 24 (by decide +kernel) (.inr ⟨_, rfl, by decide +kernel⟩))
          clear hn2
          go_wp2_with fail
          refine HCUT.out.mono ?_
          rintro e w11 ⟨v11, rfl, hi, h11⟩
          obtain ⟨y0, y1, y2, y3, rfl, q0, q1, q2, q3⟩ := hi
          generalize J.cutImg J.lvE 4 24 = mm at q0 q1 q2 q3 HSZ HN2 HH0
          obtain ⟨C0, rfl⟩ := q0.slice_
          obtain ⟨C1, rfl⟩ := q1.slice_
          obtain ⟨C2, rfl⟩ := q2.slice_
          obtain ⟨C3, rfl⟩ := q3.slice_
          have Q0 := Lib.hid q0
          have Q1 := Lib.hid q1
          have Q2 := Lib.hid q2
          have Q3 := Lib.hid q3
          have H11 := Lib.hid h11
          clear q0 q1 q2 q3 h11 HCUT
          go_wp2_with fail
          have hB := (Below.refl _ w11).alloc (Nat.le_refl _) (.cells #[.slice C0 mm.h0.length mm.h0.length, .slice C1 mm.h1.length mm.h1.length, .slice C2 mm.a0.length mm.a0.length, .slice C3 mm.a1.length mm.a1.length] 35)
          have hrec := at_recover_holds w mm _ _ HN2.out _ _ _ _ _ (H11.out.below hB).bel ((Q0.out.sl.weak (fun _ h => h.elim)).step (Step.of_below hB)) ((Q1.out.sl.weak (fun _ h => h.elim)).step (Step.of_below hB)) ((Q2.out.sl.weak (fun _ h => h.elim)).step (Step.of_below hB)) ((Q3.out.sl.weak (fun _ h => h.elim)).step (Step.of_below hB)) HSZ.out.1 HSZ.out.2
          refine hrec.mono ?_
          clear hrec
          rintro e w12 ⟨p2, at_, rfl, h12, _, _, _, hb12⟩
          have hE12 := (H11.out.below hB).below hb12
          have hkey := at_keys h12 ⟨#[]⟩ (by show ([([98], [50])] : List (J.B × J.B)).length ≤ 1000000; decide +kernel)
          rw [show (keysOf (J.recovered mm at_ (0 + 2) [([98], [50])]).now ⟨#[]⟩).length = 1 from by show (keysOf [([98], [50])] ⟨#[]⟩).length = 1; decide +kernel] at hkey
          have HKEY := Lib.hid hkey
          have HCM := Lib.hid (show (J.recovered mm at_ (0 + 2) [([98], [50])]).commits = 2 from rfl)
          have HHL := Lib.hid (show (J.recovered mm at_ (0 + 2) [([98], [50])]).disk.h0.length = 24 from HH0.out)
          have HE12 := Lib.hid hE12
          have H12 := Lib.hid h12
          generalize J.recovered mm at_ (0 + 2) [([98], [50])] = s2 at HKEY HCM HHL H12
          clear hkey h12 hb12 hB hE12 Q0 Q1 Q2 Q3 HSZ HN2 HH0
          go_wp2_with fail
          refine HKEY.out.mono ?_
          rintro e w13 ⟨A13, rfl, _, h13, hb13⟩
          have hcom := at_commits h13
          rw [HCM.out] at hcom
          have HCOM := Lib.hid hcom
          have H13 := Lib.hid h13
          have HE13 := Lib.hid (HE12.out.below hb13)
          clear hcom h13 hb13
          go_wp2_with fail
          refine HCOM.out.mono ?_
          rintro e Y ⟨rfl, hY⟩
          obtain rfl : w13 = Y := hY
          go_wp2_with fail
          refine (at_image2 H13.out).mono ?_
          rintro e w14 ⟨v14, rfl, hi14, hb14⟩
          obtain ⟨i0, i1, i2, i3, rfl, q0, q1, q2, q3⟩ := hi14
          obtain ⟨D0, rfl⟩ := q0.slice_
          obtain ⟨D1, rfl⟩ := q1.slice_
          obtain ⟨D2, rfl⟩ := q2.slice_
          obtain ⟨D3, rfl⟩ := q3.slice_
          rw [HHL.out]
          have HE14 := Lib.hid (HE13.out.below hb14)
          clear q0 q1 q2 q3 hb14
          go_wp2_with fail
          go_roundw
          case rel => exact ⟨24 + 1, by decide, by decide, rfl, HE14.out⟩
          case measure => decide
        · go_wp2_with fail
          refine (at_put_shut HA.out rfl ⟨#[97]⟩ none 0 0).mono ?_
          rintro e Y ⟨rfl, hY⟩
          obtain rfl : wr = Y := hY
          go_wp2_with fail
          refine (at_begin HA.out rfl).mono ?_
          rintro e w21 ⟨rfl, h21⟩
          have H21 := Lib.hid h21
          clear h21
          go_wp2_with fail
          refine (at_put_empty H21.out rfl none 0 0).mono ?_
          rintro e Y ⟨rfl, hY⟩
          obtain rfl : w21 = Y := hY
          go_wp2_with fail
          refine (at_delete (s' := J.begin_ J.lvE) H21.out [120] (by decide) 7 (by kernel_rfl)).mono ?_
          rintro e w22 ⟨rfl, h22⟩
          have H22 := Lib.hid h22
          clear h22
          go_wp2_with fail
          refine (at_begin_open H22.out rfl).mono ?_
          rintro e Y ⟨rfl, hY⟩
          obtain rfl : w22 = Y := hY
          go_wp2_with fail
          go_ret
          exact ⟨rfl, H22.out.bel⟩
end Go.Proofs.Ythjjbaiijelhnaa
