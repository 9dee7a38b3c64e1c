import Derived.Test.YthjjbaiijelhnaaM32
import Derived.Test.YthjjbaiijelhnaaM46
import Derived.Test.YthjjbaiijelhnaaM45
import Derived.Deep.CutBlock
import Derived.Deep.CutRange
set_option linter.unusedVariables false
set_option linter.unusedSimpArgs false
/- Law 30: JournalsImages. -/
namespace Go.Proofs.Ythjjbaiijelhnaa
open Go.RowKit Go.Lib Go.Maps Go.WideMaps Go.Sort
set_option maxRecDepth 100000
abbrev icells (A0 A1 A2 A3 : Option Addr) (n0 n1 n2 n3 c0 c1 c2 c3 : Nat) : Array Value := #[.slice A0 n0 c0, .slice A1 n1 c1, .slice A2 n2 c2, .slice A3 n3 c3]
theorem img_lives (A0 A1 A2 A3 : Option Addr) (n0 n1 n2 n3 c0 c1 c2 c3 : Nat) (w : World) (h : 2000 < n0 + n1 + n2 + n3) (hs : n0 + n1 + n2 + n3 ≤ 4611686018427387904) :
    Calls Try.prog 4 #[.agg (icells A0 A1 A2 A3 n0 n1 n2 n3 c0 c1 c2 c3)] w fun e w' => e = .returned (.bool true) ∧ Below w.heap.size w w' := by
  have hb0 : Below w.heap.size w (w.alloc (.cells (icells A0 A1 A2 A3 n0 n1 n2 n3 c0 c1 c2 c3) 35)) := (Below.refl _ w).alloc (Nat.le_refl _) _
  have hci := fun j => cell_of_row (w.alloc (.cells (icells A0 A1 A2 A3 n0 n1 n2 n3 c0 c1 c2 c3) 35)) w.heap.size j _ _ _ (heap_alloc_new w _)
  have HL := Lib.hid (lives_any (w.alloc (.cells (icells A0 A1 A2 A3 n0 n1 n2 n3 c0 c1 c2 c3) 35)))
  have HB := Lib.hid hb0
  have h1 : (2000 : Int) < (n0 : Int) + (n1 : Int) + (n2 : Int) + (n3 : Int) := by omega
  have w1 : wrap64 ((n0 : Int) + (n1 : Int)) = (n0 : Int) + (n1 : Int) := IntWalk.wrap64_in _ (by omega)
  have w2 : wrap64 ((n0 : Int) + (n1 : Int) + (n2 : Int)) = (n0 : Int) + (n1 : Int) + (n2 : Int) := IntWalk.wrap64_in _ (by omega)
  have w3 : wrap64 ((n0 : Int) + (n1 : Int) + (n2 : Int) + (n3 : Int)) = (n0 : Int) + (n1 : Int) + (n2 : Int) + (n3 : Int) := IntWalk.wrap64_in _ (by omega)
  have HX := Lib.hid (And.intro h hs)
  clear hb0 h hs
  go_enter Try.func4, Try.ntmps4
  go_wp2_with fail
  clear hci w1 w2 w3 HX
  refine HL.out.mono ?_
  rintro e w1 ⟨rfl, hb⟩
  have HB1 := Lib.hid (HB.out.trans (hb.mono HB.out.size))
  clear hb
  go_wp2
  go_ret
  exact ⟨rfl, HB1.out⟩
theorem sl_by_n2 {w : World} {M : Nat → Prop} {A : Option Addr} {n c : Nat} {l : J.B} (h : Sl w M (.slice A n c) l) (hn : l.length = n) : By w M A n l := by
  obtain ⟨A2, c2, e, _, hb⟩ := h.by
  injection e with e1 e2 e3
  subst e1
  rw [← hn]; exact hb
set_option maxHeartbeats 6000000 in
theorem img_small (A0 A1 A2 A3 : Option Addr) (c0 c1 c2 c3 : Nat) (m : J.Img) (w : World) (q0 : Sl w NoM (.slice A0 m.h0.length c0) m.h0) (q1 : Sl w NoM (.slice A1 m.h1.length c1) m.h1) (q2 : Sl w NoM (.slice A2 m.a0.length c2) m.a0) (q3 : Sl w NoM (.slice A3 m.a1.length c3) m.a1) (h : m.h0.length + m.h1.length + m.a0.length + m.a1.length ≤ 2000) :
    Calls Try.prog 4 #[.agg (icells A0 A1 A2 A3 m.h0.length m.h1.length m.a0.length m.a1.length c0 c1 c2 c3)] w fun e w' => e = .returned (.bool true) ∧ Below w.heap.size w w' := by
  obtain ⟨i0, hi, hz0, hz1, hz2⟩ := info_parts Try.infoP
  have hb0 : Below w.heap.size w (w.alloc (.cells (icells A0 A1 A2 A3 m.h0.length m.h1.length m.a0.length m.a1.length c0 c1 c2 c3) 35)) := (Below.refl _ w).alloc (Nat.le_refl _) _
  have HIR := Lib.hid (heap_alloc_new w (.cells (icells A0 A1 A2 A3 m.h0.length m.h1.length m.a0.length m.a1.length c0 c1 c2 c3) 35))
  have HB := Lib.hid hb0
  have HQ0 := Lib.hid (q0.step (M' := NoM) (Step.of_below hb0))
  have HQ1 := Lib.hid (q1.step (M' := NoM) (Step.of_below hb0))
  have HQ2 := Lib.hid (q2.step (M' := NoM) (Step.of_below hb0))
  have HQ3 := Lib.hid (q3.step (M' := NoM) (Step.of_below hb0))
  have h1 : ¬ (2000 : Int) < (m.h0.length : Int) + (m.h1.length : Int) + (m.a0.length : Int) + (m.a1.length : Int) := by omega
  have h2 : (m.h0.length : Int) + (m.h1.length : Int) + (m.a0.length : Int) + (m.a1.length : Int) ≤ 2000 := by omega
  have HLN := Lib.hid h
  have hl0 : m.h0.length ≤ 2000 := by omega
  have hl1 : m.h1.length ≤ 2000 := by omega
  have hl2 : m.a0.length ≤ 2000 := by omega
  have hl3 : m.a1.length ≤ 2000 := by omega
  clear q0 q1 q2 q3 h
  go_enter Try.func4, Try.ntmps4
  generalize hw0 : w.alloc (.cells (icells A0 A1 A2 A3 m.h0.length m.h1.length m.a0.length m.a1.length c0 c1 c2 c3) 35) = w0 at *
  go_upto_region 1 with fail
  clear hw0 hb0
  obtain ⟨ib, hib⟩ : ∃ ib, w.heap.size = ib := ⟨_, rfl⟩
  rw [hib] at HIR ⊢
  have HIB := Lib.hid hib
  have HBX := HB
  clear hib
  have hci := fun j => cell_of_row w0 ib j _ _ _ HIR.out
  go_wp2_with fail
  clear hci h1 h2
  have hrc := at_recover w0 m _ _ _ _ w0 (Below.refl _ _) HQ0.out HQ1.out HQ2.out HQ3.out (by omega) (by omega) (by omega) (by omega)
  unfold RecRes2 at hrc
  cases hrm : J.recover m with
  | error er =>
    rw [hrm] at hrc
    have her := J.recover_err (by omega) (by omega) hrm
    refine hrc.mono ?_
    clear hrc hrm
    rintro e w1 ⟨rfl, hb1⟩
    have HB1 := Lib.hid (HBX.out.trans (hb1.mono HBX.out.size))
    clear hb1
    rcases her with rfl | rfl
    all_goals
      go_wp2_with fail
      refine (lives_any w1).mono ?_
      rintro e w2 ⟨rfl, hb2⟩
      have HB2 := Lib.hid (HB1.out.trans (hb2.mono HB1.out.size))
      clear hb2
      go_wp2_with fail
      go_ret
      exact ⟨rfl, HB2.out⟩
  | ok s =>
    rw [hrm] at hrc
    have HF := Lib.hid (J.imgF hrm (by omega) (by omega))
    refine hrc.mono ?_
    clear hrc hrm
    rintro e w1 ⟨p, rfl, hat, hb1⟩
    have HAT := Lib.hid hat
    have hwr := at_writes hat
    rw [HF.out.wr] at hwr
    clear hat hb1
    go_wp2_with fail
    refine hwr.mono ?_
    clear hwr
    rintro e Y ⟨rfl, hY⟩
    subst hY
    go_wp2_with fail
    have hlen0 := HF.out.len
    refine (at_keys HAT.out ⟨#[]⟩ (by omega)).mono ?_
    rintro e w2 ⟨AK, rfl, hst, hat2, hb2⟩
    rw [keysOf_all] at hst ⊢
    rw [List.length_map]
    have HST := Lib.hid hst
    have HA2 := Lib.hid hat2
    clear hst hat2 hb2 HAT
    go_wp2_with fail
    go_loopw [5, 7] (fun l i wr => ∃ j : Nat, j ≤ s.now.length ∧ i = .int .i64 j ∧ Hid (wr.ownsRow w2.heap.size 47 2 l j (prCells (s.now.take j))) ∧ Hid (Below w2.heap.size w2 wr)) (fun _ i _ => s.now.length - (intOf i).toNat)
    case atStart => exact ⟨0, Nat.zero_le _, rfl, Lib.hid (World.ownsRow_nil _ _ _ _), Lib.hid (Below.refl _ _)⟩
    case round =>
      obtain ⟨j, hj, rfl, HO, HBJ⟩ := hrel
      by_cases hlt : j < s.now.length
      · obtain ⟨g1, rfl, hg1, hks⟩ := HST.out (by rw [List.length_map]; omega)
        have hck := (HBJ.out.cell (p := ⟨g1, j, none⟩) hg1).trans (hks j (by rw [List.length_map]; exact hlt))
        rw [List.getElem_map] at hck
        have hmem := List.getElem_mem hlt
        have hfit := HF.out.inv.fit _ hmem
        have hlook := J.look_of_mem _ _ _ HF.out.inv.asc (show (s.now[j].1, s.now[j].2) ∈ s.now from hmem)
        have HTK := Lib.hid (List.take_succ_eq_append_getElem hlt)
        clear hmem hks
        generalize s.now[j] = x at hck hfit hlook HTK
        obtain ⟨kk, vv⟩ := x
        obtain ⟨hk0, hk1, hk2⟩ := hfit
        replace hk0 : kk ≠ [] := hk0
        replace hk1 : kk.length ≤ 300 := hk1
        replace hk2 : vv.length ≤ 8192 := hk2
        replace hlook : J.look s.now kk = some vv := hlook
        have hg := at_getB (HA2.out.below HBJ.out) kk (by omega) (fun l hl => by rw [hlook] at hl; injection hl with hl; subst hl; omega)
        rw [hlook] at hg
        replace hck : wr.cell? ⟨g1, j, none⟩ = some (.string ⟨kk.toArray⟩) := hck
        have hks := enc_size kk
        have hkl := enc_key kk hk0
        generalize hkk : (⟨kk.toArray⟩ : ByteArray) = kb at hks hkl hck hg
        have HKK := Lib.hid hkk
        have HG := Lib.hid hg
        have hke : kb.toList.isEmpty = false := by cases e : kb.toList <;> simp_all
        have hk3 : ¬ (300 : Int) < ((kb.size : Nat) : Int) := by rw [hks]; omega
        clear hkk hg hlook hk0 hk1
        go_wp2_with fail
        refine HG.out.mono ?_
        rintro e w3 ⟨v3, rfl, hsl, hb3⟩
        obtain ⟨A3', rfl, hby⟩ := hsl.by_
        have hck3 := (hb3.cell (p := ⟨g1, j, none⟩) (cell_lt hck)).trans hck
        have HCK := Lib.hid hck3
        have HBY := Lib.hid hby
        have HLT := Lib.hid HO.out.lt
        have hb3' := HBJ.out.trans (hb3.mono HBJ.out.size)
        have HB3 := Lib.hid hb3'
        have ho3 := own_same HO.out (fun k hk => hb3.block k (HO.out.lt k hk).2)
        have HO3 := Lib.hid ho3
        clear hsl hby hb3 hck hb3' ho3 HG HO
        go_upto_region 16 with fail
        clear hck3
        refine wp_region_plan 10 [(0, false), (1, false), (2, false), (3, false), (4, false), (5, false), (6, false), (7, false), (8, true), (9, true)] (fun w' => w'.cell? ⟨g1, j, none⟩ = some (.string kb) ∧ By w' (· < wr.heap.size) A3' vv.length vv) (by kernel_rfl) (by kernel_rfl) (fun c a d v w h => by cases d <;> exact h) ⟨HCK.out, HBY.out.drew⟩ ?_
        repeat
          refine wpPlan_read (v := ?_) (by rfl) (by rfl) (fun w' hS => ?_) (fun K hK => ?_)
          rotate_left
          · have hckS := hS.1
            have hcv := run_str_by (c := vv.length) hS.2
            clear hS
            go_simp
            try with_reducible rfl
          go_simp
          refine hK _ ?_
          clear hK K
        refine wpPlan_write (by rfl) (fun K hK => ?_)
        go_simp
        have hbA : Below w3.heap.size w3 (w3.drew.alloc (.cells #[.string kb, .string ⟨vv.toArray⟩] 47)) := (Below.refl _ w3).drew.alloc (Nat.le_refl _) _
        have HBA := Lib.hid hbA
        refine hK.out _ _ ⟨(hbA.cell (p := ⟨g1, j, none⟩) (cell_lt HCK.out)).trans HCK.out, HBY.out.below hbA⟩ ?_
        clear hK K hbA
        refine wpPlan_write (by rfl) (fun K hK => ?_)
        refine (if_pos (by rfl)).mpr ?_
        refine wp_append_own _ _ _ 41 (by rfl) w2.heap.size 47 i0 _ 2 32 Try.underlying41 hi hz0 hz1 hz2 rfl (by decide) _ j (prCells (s.now.take j)) (by rfl) (HO3.out.drew.alloc _) ⟨w3.heap.size, 0, none⟩ 1 1 [.string kb, .string ⟨vv.toArray⟩] (by rfl) rfl (World.news_of_block (heap_alloc_new w3.drew _)) (by simp [Value.oneCell']) (by unfold maxLen; omega) (by omega) (by have := HB3.out.size; simp; omega) ?_
        intro v' w4 hown' hg3 hnil3
        have hb24 := (HB3.out.trans (HBA.out.mono HB3.out.size)).grown hg3 (Nat.le_trans HB3.out.size HBA.out.size) (fun j hj => (HLT.out j hj).1)
        have hcA := (HBA.out.cell (p := ⟨g1, j, none⟩) (cell_lt HCK.out)).trans HCK.out
        have hc4 := (World.cell?_of_block (a := ⟨g1, j, none⟩) (hg3.block g1 (cell_lt hcA) (fun e => by have := (HLT.out g1 e.symm).1; omega))).trans hcA
        have hby4 := (HBY.out.below HBA.out).step (Step.of_grown hg3 (fun k e _ => (HLT.out k e).2))
        have hown4 : w4.ownsRow w2.heap.size 47 2 v' (j + 1) (prCells (s.now.take (j + 1))) := by
          rw [HTK.out, prCells_app, ← HKK.out] at *
          exact hown'
        have HO4 := Lib.hid hown4
        have HB4 := Lib.hid hb24
        refine hK.out _ _ ⟨hc4, hby4⟩ ?_
        clear hK K hb24 hcA hc4 hby4 hown4 hown' hg3 hnil3
        show wpList _ _ _ _ _ _
        go_wp2_with fail
        go_roundw
        case rel => exact ⟨j + 1, by omega, by go_num, HO4, HB4⟩
        case measure => simp [intOf]; omega
      · obtain rfl : j = s.now.length := by omega
        have hown := HO.out
        rw [List.take_length] at hown
        have hx := HA2.out
        obtain ⟨M, g1, g2, g3⟩ := hx
        have hap : AtP w0 p s _ s.now wr := ⟨M, g1.below HBJ.out, fun k hk => ⟨(g2 k hk).1, Nat.lt_of_lt_of_le (g2 k hk).2 HBJ.out.size⟩, g3.trans (HBJ.out.mono g3.size), own_prs hown (fun k hk => (g2 k hk).2)⟩
        obtain ⟨Al, cl, el⟩ := own_slice_len hown
        subst el
        have HAP := Lib.hid hap
        have hhold := HF.out.inv.disk.holds
        rw [HF.out.com] at hhold
        have HHO := Lib.hid hhold
        have HFIT := Lib.hid (show ∀ q ∈ s.now, q.1.length ≤ 1000 ∧ q.2.length ≤ 100000 from fun q hq => by have h1 := (HF.out.inv.fit q hq).2.1; have h2 := (HF.out.inv.fit q hq).2.2; exact ⟨by omega, by omega⟩)
        have hh0 := HF.out.inv.disk.h0.len
        have hh1 := HF.out.inv.disk.h1.len
        clear hown g1 g2 g3 hap hhold HA2 HO HBJ
        go_wp2_with fail
        refine (at_imageB HAP.out.at).mono ?_
        rintro e w3 ⟨v, rfl, hi', hb3⟩
        obtain ⟨I0, I1, I2, I3, rfl, x0, x1, x2, x3⟩ := imgC_parts hi'
        have HB3 := Lib.hid hb3
        have HXX := Lib.hid (And.intro (And.intro x0 x1) (And.intro x2 x3))
        clear x0 x1 x2 x3 hi' hb3
        go_wp2_with fail
        refine (at_recover_q (q := False) w3 s.disk s.commits s.now HHO.out _ _ _ _ w3 (Below.refl _ _) HXX.out.1.1 HXX.out.1.2 HXX.out.2.1 HXX.out.2.2 (by omega) (by omega)).mono ?_
        rintro e w4 ⟨p2, s2, rfl, hat2, e1, e2, hb4⟩
        have hb34 := HB3.out.trans (hb4.mono HB3.out.size)
        have HAP4 := Lib.hid (HAP.out.below hb34)
        obtain ⟨M2, k1, k2, k3⟩ := hat2
        have hag := agrees_any p2 M2 s2 (.slice Al s.now.length cl) w4 k1 (by rw [e1]; exact HAP4.out.prs) (by rw [e1]; omega) (by rw [e1]; exact HFIT.out)
        rw [e2] at hag
        have HAG := Lib.hid hag
        clear hag k1 k2 k3 e1 e2 hb34 hb4 HB3 HXX HAP
        go_wp2_with fail
        refine (at_commits HAP4.out.at).mono ?_
        rintro e Y ⟨rfl, hY⟩
        subst hY
        go_wp2_with fail
        refine HAG.out.mono ?_
        rintro e w5 ⟨rfl, hb5⟩
        have HAP5 := Lib.hid (HAP4.out.below hb5)
        clear hb5 HAG HAP4
        go_wp2_with fail
        by_cases hg : s.gen = J.latest
        · refine (atP_compact HAP5.out HF.out.opn (J.img_csmall HF.out) 9 (J.img_full HF.out hg)).mono ?_
          rintro e w6 ⟨rfl, h6⟩
          have HB06 := Lib.hid h6.at.bel
          have hwr := at_writes h6.at
          rw [HF.out.wr] at hwr
          have hir := (HB06.out.block _ (Array.getElem?_eq_some_iff.1 HIR.out).1).trans HIR.out
          have hci := fun j => cell_of_row w6 ib j _ _ _ hir
          have hy0 := (sl_by_n2 HQ0.out rfl).below HB06.out
          have hy1 := (sl_by_n2 HQ1.out rfl).below HB06.out
          have hgen := HF.out.gen hg
          clear hir h6
          by_cases hA : m.h0.length = 24 ∧ m.h0[7]? = some 64
          · obtain ⟨hl, hv⟩ := hA
            obtain ⟨b, o, rfl, _, _, hc7⟩ := hy0.cell (k := 7) (by omega)
            have e7 : m.h0[7]'(by omega) = 64 := by
              rw [List.getElem?_eq_getElem (by omega)] at hv; injection hv
            rw [e7] at hc7
            replace hc7 : w6.cell? ⟨b, o + 7, none⟩ = some (.int .u8 64) := hc7
            clear e7 hv hy0 hy1 hgen
            go_wp2_with fail
            clear hci
            refine hwr.mono ?_
            clear hwr
            rintro e Y ⟨rfl, hY⟩
            subst hY
            go_wp2_with fail
            refine (lives_any w6).mono ?_
            rintro e w7 ⟨rfl, hb7⟩
            have HB7 := Lib.hid (HB06.out.trans (hb7.mono HB06.out.size))
            clear hb7
            go_wp2_with fail
            go_ret
            exact ⟨rfl, HBX.out.trans (HB7.out.mono HBX.out.size)⟩
          · obtain ⟨hl1, hv1⟩ := hgen.resolve_left hA
            obtain ⟨b, o, rfl, _, _, hc7⟩ := hy1.cell (k := 7) (by omega)
            have e7 : m.h1[7]'(by omega) = 64 := by
              rw [List.getElem?_eq_getElem (by omega)] at hv1; injection hv1
            rw [e7] at hc7
            replace hc7 : w6.cell? ⟨b, o + 7, none⟩ = some (.int .u8 64) := hc7
            by_cases hl : m.h0.length = 24
            · obtain ⟨b', o', rfl, _, _, hc8⟩ := hy0.cell (k := 7) (by omega)
              have hx : m.h0[7]'(by omega) ≠ 64 := fun e => hA ⟨hl, by rw [List.getElem?_eq_getElem (by omega), e]⟩
              generalize m.h0[7]'(by omega) = x at hc8 hx
              have hx2 : ((x.toNat : Int) == 64) = false := by
                simp only [beq_eq_false_iff_ne, ne_eq]
                intro h
                apply hx
                apply UInt8.toNat_inj.1
                show x.toNat = 64
                omega
              have hx3 : ¬ (x.toNat : Int) = 64 := by simpa using hx2
              clear e7 hv1 hy0 hy1 hgen hA hx
              go_wp2_with fail
              clear hci
              refine hwr.mono ?_
              clear hwr
              rintro e Y ⟨rfl, hY⟩
              subst hY
              go_wp2_with fail
              refine (lives_any w6).mono ?_
              rintro e w7 ⟨rfl, hb7⟩
              have HB7 := Lib.hid (HB06.out.trans (hb7.mono HB06.out.size))
              clear hb7
              go_wp2_with fail
              go_ret
              exact ⟨rfl, HBX.out.trans (HB7.out.mono HBX.out.size)⟩
            · have hl2 : ((m.h0.length : Int) == 24) = false := by simp; omega
              have hl3 : ¬ (m.h0.length : Int) = 24 := by omega
              clear e7 hv1 hy0 hy1 hgen hA
              go_wp2_with fail
              clear hci
              refine hwr.mono ?_
              clear hwr
              rintro e Y ⟨rfl, hY⟩
              subst hY
              go_wp2_with fail
              refine (lives_any w6).mono ?_
              rintro e w7 ⟨rfl, hb7⟩
              have HB7 := Lib.hid (HB06.out.trans (hb7.mono HB06.out.size))
              clear hb7
              go_wp2_with fail
              go_ret
              exact ⟨rfl, HBX.out.trans (HB7.out.mono HBX.out.size)⟩
        · obtain ⟨hcq, hG⟩ := J.img_compact HF.out hg
          refine (atP_compact HAP5.out HF.out.opn (J.img_csmall HF.out) 0 hcq).mono ?_
          rintro e w6 ⟨rfl, h6⟩
          generalize J.compacted s s.now = T at h6 hG
          have HT := Lib.hid hG
          have H6 := Lib.hid h6
          clear hcq hG h6 HAP5
          go_wp2_with fail
          have hwr := at_writes H6.out.at
          rw [HT.out.wr] at hwr
          refine hwr.mono ?_
          clear hwr
          rintro e Y ⟨rfl, hY⟩
          subst hY
          go_wp2_with fail
          go_loopw [13] (fun i wr => ∃ k : Nat, k ≤ 4 ∧ i = .int .i64 k ∧ Hid (Below w6.heap.size w6 wr)) (fun i _ => 4 - (intOf i).toNat)
          case atStart => exact ⟨0, by omega, rfl, Lib.hid (Below.refl _ _)⟩
          case round =>
            obtain ⟨k, hk, rfl, HBK⟩ := hrel
            by_cases hk3 : k ≤ 3
            · have hk4 : (k : Int) ≤ 3 := by omega
              have hkw : k ≤ T.writes.length := by rw [HT.out.wr]; exact hk3
              go_wp2_with fail
              go_loopw [14] (fun i wi => ∃ t : Nat, t ≤ 25 ∧ i = .int .i64 t ∧ Hid (Below w6.heap.size w6 wi)) (fun i _ => 25 - (intOf i).toNat)
              case atStart => exact ⟨0, by omega, rfl, HBK⟩
              case round =>
                obtain ⟨t, ht, rfl, HBT⟩ := hrel
                by_cases ht25 : t < 25
                · have ht26 : (t : Int) < 25 := by omega
                  by_cases hcu : t ≤ J.wlen T k
                  · go_wp2_with fail
                    refine (at_cutB (H6.out.at.below HBT.out) HT.out.wok k t hkw (J.wlen_cut hcu)).mono ?_
                    rintro e w7 ⟨v, rfl, hi', hb7⟩
                    obtain ⟨I0, I1, I2, I3, rfl, x0, x1, x2, x3⟩ := imgC_parts hi'
                    have hho := J.img_holds HT.out.hist k t hkw (J.wlen_cut hcu)
                    have hch := J.cut_heads HT.out.wok H6.out.at.ok.logged k t
                    generalize J.cutImg T k t = CI at hho hch hi' x0 x1 x2 x3 ⊢
                    have HHO3 := Lib.hid hho
                    have HCH := Lib.hid hch
                    have hA7 := (Below.refl _ w7).alloc (Nat.le_refl _) (.cells #[.slice I0 CI.h0.length CI.h0.length, .slice I1 CI.h1.length CI.h1.length, .slice I2 CI.a0.length CI.a0.length, .slice I3 CI.a1.length CI.a1.length] 35)
                    have hb67 := HBT.out.trans (hb7.mono HBT.out.size)
                    have hb68 := hb67.alloc hb67.size (.cells #[.slice I0 CI.h0.length CI.h0.length, .slice I1 CI.h1.length CI.h1.length, .slice I2 CI.a0.length CI.a0.length, .slice I3 CI.a1.length CI.a1.length] 35)
                    have hrow := heap_alloc_new w7 (.cells #[.slice I0 CI.h0.length CI.h0.length, .slice I1 CI.h1.length CI.h1.length, .slice I2 CI.a0.length CI.a0.length, .slice I3 CI.a1.length CI.a1.length] 35)
                    have HXX := Lib.hid (And.intro (And.intro (x0.step (M' := NoM) (Step.of_below hA7)) (x1.step (M' := NoM) (Step.of_below hA7))) (And.intro (x2.step (M' := NoM) (Step.of_below hA7)) (x3.step (M' := NoM) (Step.of_below hA7))))
                    have HB68 := Lib.hid hb68
                    have HROW := Lib.hid hrow
                    clear hho hch hi' x0 x1 x2 x3 hA7 hb67 hb68 hrow hb7
                    go_upto_region 32 with fail
                    generalize w7.alloc (.cells #[.slice I0 CI.h0.length CI.h0.length, .slice I1 CI.h1.length CI.h1.length, .slice I2 CI.a0.length CI.a0.length, .slice I3 CI.a1.length CI.a1.length] 35) = w8 at HXX HB68 HROW ⊢
                    have hcd := fun j => cell_of_row w8 w7.heap.size j _ _ _ HROW.out
                    go_wp2_with fail
                    clear hcd
                    refine (at_recover_q (q := False) w8 CI s.commits s.now HHO3.out _ _ _ _ w8 (Below.refl _ _) HXX.out.1.1 HXX.out.1.2 HXX.out.2.1 HXX.out.2.2 HCH.out.1 HCH.out.2).mono ?_
                    rintro e w9 ⟨p3, s3, rfl, hat3, e1, e2, hb9⟩
                    have hb69 := HB68.out.trans (hb9.mono HB68.out.size)
                    have HAP9 := Lib.hid (H6.out.below hb69)
                    have HB69 := Lib.hid hb69
                    obtain ⟨M3, k1, k2, k3⟩ := hat3
                    have hag := agrees_any p3 M3 s3 (.slice Al s.now.length cl) w9 k1 (by rw [e1]; exact HAP9.out.prs) (by rw [e1]; omega) (by rw [e1]; exact HFIT.out)
                    rw [e2] at hag
                    have HAG := Lib.hid hag
                    have hcm := at_commits HAP9.out.at
                    rw [HT.out.com] at hcm
                    clear hag k1 k2 k3 e1 e2 hb69 hb9
                    go_wp2_with fail
                    refine hcm.mono ?_
                    clear hcm
                    rintro e Y ⟨rfl, hY⟩
                    subst hY
                    go_wp2_with fail
                    refine HAG.out.mono ?_
                    rintro e w10 ⟨rfl, hb10⟩
                    have HB10 := Lib.hid (HB69.out.trans (hb10.mono HB69.out.size))
                    clear hb10
                    go_wp2_with fail
                    go_roundw
                    case rel => exact ⟨t + 1, by omega, by go_num, HB10⟩
                    case measure => simp [intOf]; omega
                  · have hno := J.wlen_no (s := T) hkw (Nat.lt_of_not_le hcu)
                    go_wp2_with fail
                    refine (at_cut_noneB (H6.out.at.below HBT.out) k t hno).mono ?_
                    rintro e w7 ⟨rfl, hb7⟩
                    have hb67 := HBT.out.trans (hb7.mono HBT.out.size)
                    have HB68 := Lib.hid (hb67.alloc hb67.size (.cells #[.slice none 0 0, .slice none 0 0, .slice none 0 0, .slice none 0 0] 35))
                    clear hb67 hb7 hno
                    go_wp2_with fail
                    go_roundw
                    case rel => exact ⟨k + 1, by omega, by go_num, HB68⟩
                    case measure => simp [intOf]; omega
                · obtain rfl : t = 25 := by omega
                  go_wp2_with fail
                  go_roundw
                  case rel => exact ⟨k + 1, by omega, by go_num, HBT⟩
                  case measure => simp [intOf]; omega
            · obtain rfl : k = 4 := by omega
              go_wp2_with fail
              refine (lives_any _).mono ?_
              rintro e w7 ⟨rfl, hb7⟩
              have HB67 := Lib.hid (HBK.out.trans (hb7.mono HBK.out.size))
              clear hb7
              go_wp2_with fail
              go_ret
              exact ⟨rfl, HBX.out.trans ((H6.out.at.bel.trans (HB67.out.mono H6.out.at.bel.size)).mono HBX.out.size)⟩
end Go.Proofs.Ythjjbaiijelhnaa
