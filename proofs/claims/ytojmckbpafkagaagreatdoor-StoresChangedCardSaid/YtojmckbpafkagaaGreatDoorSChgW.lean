/- StoresChanged: the law's walk. -/
import Derived.Test.YtojmckbpafkagaaGreatDoorSChg
set_option linter.unusedVariables false
set_option linter.unusedSimpArgs false
namespace Go.Proofs.YtojmckbpafkagaaGreatDoor
open Go.RowKit Go.Lib Go.Maps
set_option maxRecDepth 100000
theorem changed_ne (A B : Option Addr) (n m ca cb : Nat) (w : World) (h : n ≠ m) :
    Calls Tryz.prog 8 #[.slice A n ca, .slice B m cb] w fun e w' => e = .returned (.tuple #[.slice none 0 0, .int .i64 5]) ∧ w = w' := by
  have h' : ((n : Int) != (m : Int)) = true := by simp; omega
  go_enter Tryz.func8, Tryz.ntmps8
  go_wp2_with fail
  refine bodyPost_ret (results_tmp2 rfl _ _ _) rfl ?_
  exact ⟨rfl, rfl⟩
set_option maxHeartbeats 4000000 in
theorem chgL_big (A B : Option Addr) (n m ca cb : Nat) (a b : Nat → Nat) (w : World) (hA : Bts w A n a) (hB : Bts w B m b) (h : 300 < n ∨ 300 < m)
    (hlv : ∀ W, Below w.heap.size w W → Calls Tryz.prog 7 #[] W fun e w' => e = .returned (.bool true) ∧ Below W.heap.size W w') :
    Calls Tryz.prog 4 #[.slice A n ca, .slice B m cb] w fun e w' => e = .returned (.bool true) ∧ Below w.heap.size w w' := by
  have HLV := Lib.hid hlv
  have HA := Lib.hid hA
  have HB := Lib.hid hB
  clear hlv hA hB
  have HBL : Hid (Below w.heap.size w w) := Lib.hid (Below.refl _ _)
  by_cases h1 : 300 < n
  · have h1' : (300 : Int) < (n : Nat) := by omega
    go_enter Tryz.func4, Tryz.ntmps4
    go_wp2_with fail
    refine (HLV.out _ HBL.out).mono ?_
    rintro e w5 ⟨rfl, hb5⟩
    have HB5 := Lib.hid (HBL.out.trans (hb5.mono HBL.out.size))
    clear hb5
    go_wp2_with fail
    go_ret
    exact ⟨rfl, HB5.out⟩
  · have h1' : ¬ (300 : Int) < (n : Nat) := by omega
    have h2' : (300 : Int) < (m : Nat) := by omega
    go_enter Tryz.func4, Tryz.ntmps4
    go_wp2_with fail
    refine (HLV.out _ HBL.out).mono ?_
    rintro e w5 ⟨rfl, hb5⟩
    have HB5 := Lib.hid (HBL.out.trans (hb5.mono HBL.out.size))
    clear hb5
    go_wp2_with fail
    go_ret
    exact ⟨rfl, HB5.out⟩
set_option maxHeartbeats 4000000 in
theorem chgL_ne (A B : Option Addr) (n m ca cb : Nat) (a b : Nat → Nat) (w : World) (hA : Bts w A n a) (hB : Bts w B m b) (hn : n ≤ 300) (hm : m ≤ 300) (h : n ≠ m)
    (hlv : ∀ W, Below w.heap.size w W → Calls Tryz.prog 7 #[] W fun e w' => e = .returned (.bool true) ∧ Below W.heap.size W w') :
    Calls Tryz.prog 4 #[.slice A n ca, .slice B m cb] w fun e w' => e = .returned (.bool true) ∧ Below w.heap.size w w' := by
  have HLV := Lib.hid hlv
  have HA := Lib.hid hA
  have HB := Lib.hid hB
  clear hlv hA hB
  have h1' : ¬ (300 : Int) < (n : Nat) := by omega
  have h2' : ¬ (300 : Int) < (m : Nat) := by omega
  have h3' : ((n : Int) != (m : Int)) = true := by simp; omega
  have HC := Lib.hid (changed_ne A B n m ca cb w h)
  have HBL : Hid (Below w.heap.size w w) := Lib.hid (Below.refl _ _)
  go_enter Tryz.func4, Tryz.ntmps4
  go_wp2_with fail
  refine HC.out.mono ?_
  rintro e w1 ⟨rfl, rfl⟩
  go_wp2_with fail
  refine (HLV.out _ HBL.out).mono ?_
  rintro e w5 ⟨rfl, hb5⟩
  have HB5 := Lib.hid (HBL.out.trans (hb5.mono HBL.out.size))
  clear hb5
  go_wp2_with fail
  go_ret
  exact ⟨rfl, HB5.out⟩
theorem cw64 (x y : Nat) (h : x + y ≤ 100000) : wrap64 ((x : Int) + (y : Int)) = ((x + y : Nat) : Int) := (w64_sm _ (by omega) (by omega)).trans (by omega)
theorem cw64' (x y : Nat) (h : x + y ≤ 100000) : IntKind.i64.wrap ((x : Int) + (y : Int)) = ((x + y : Nat) : Int) := (i64_sm _ (by omega) (by omega)).trans (by omega)
theorem cmea (L i z : Nat) (hz : 0 < z) (h : i < L) (hL : i + z ≤ 100000) : L - (intOf (.int .i64 (wrap64 ((i : Int) + (z : Int))))).toNat < L - (intOf (.int .i64 (i : Nat))).toNat := by
  rw [cw64 i z hL]
  show L - ((i + z : Nat) : Int).toNat < L - ((i : Nat) : Int).toNat
  omega
set_option maxHeartbeats 4000000 in
theorem chgL_eq (A B : Option Addr) (n ca cb : Nat) (a b : Nat → Nat) (w : World) (hA : Bts w A n a) (hB : Bts w B n b) (hn : n ≤ 300)
    (hlv : ∀ W, Below w.heap.size w W → Calls Tryz.prog 7 #[] W fun e w' => e = .returned (.bool true) ∧ Below W.heap.size W w') :
    Calls Tryz.prog 4 #[.slice A n ca, .slice B n cb] w fun e w' => e = .returned (.bool true) ∧ Below w.heap.size w w' := by
  have HLV := Lib.hid hlv
  have HA := Lib.hid hA
  have HB := Lib.hid hB
  clear hlv hA hB
  have h1' : ¬ (300 : Int) < (n : Nat) := by omega
  have h3' : ((n : Int) != (n : Int)) = false := by simp
  have hc := changed_any A B n ca cb a b w HA.out HB.out (by omega)
  have HN := Lib.hid hn
  generalize hd : (fun j => a j != b j) = d at hc
  have HD : Hid (∀ j, d j = (a j != b j)) := Lib.hid (fun j => by rw [← hd])
  have HC := Lib.hid hc
  clear hd hc hn
  go_enter Tryz.func4, Tryz.ntmps4
  go_wp2_with fail
  refine HC.out.mono ?_
  rintro e w1 ⟨C, rfl, hp, hb⟩
  have HP := Lib.hid hp
  have HB1 := Lib.hid hb
  have HAw := Lib.hid (HA.out.below hb)
  have HBw := Lib.hid (HB.out.below hb)
  clear hp hb HA HB HC
  go_wp2_with fail
  go_loopw [7, 8] (fun k i W => ∃ kk ii : Nat, k = .int .i64 kk ∧ i = .int .i64 ii ∧ Hid (SC.Inv d n ii kk ∧ Below w1.heap.size w1 W)) (fun _ i _ => n - (intOf i).toNat)
  case atStart => exact ⟨0, 0, rfl, rfl, Lib.hid ⟨SC.inv_0 d n, Below.refl _ _⟩⟩
  case round =>
    obtain ⟨kk, ii, rfl, rfl, HI⟩ := hrel
    by_cases hlt : ii < n
    · obtain ⟨ga, oa, rfl, hga, hca⟩ := HAw.out (by omega)
      obtain ⟨gb, ob, rfl, hgb, hcb⟩ := HBw.out (by omega)
      have hlt' : (ii : Int) < (n : Nat) := by omega
      have HCA := Lib.hid (And.intro hga hca)
      have HCB := Lib.hid (And.intro hgb hcb)
      clear hga hca hgb hcb
      go_wp2_with fail
      go_loopw [9] (fun c W => ∃ q : Nat, c = .int .i64 q ∧ ii + q ≤ n ∧ Hid ((∀ j, ii ≤ j → j < ii + q → d j = true) ∧ Below w1.heap.size w1 W)) (fun c _ => n - (intOf c).toNat)
      case atStart => exact ⟨0, rfl, by omega, Lib.hid ⟨fun j h1 h2 => by omega, HI.out.2⟩⟩
      case round =>
        obtain ⟨q, rfl, hq, HQ⟩ := hrel
        have r1 : wrap64 ((ii : Int) + (q : Int)) = (ii : Int) + (q : Int) := aw64 ii q (by have := HN.out; omega)
        have r2 : IntKind.i64.wrap ((ii : Int) + (q : Int)) = (ii : Int) + (q : Int) := ai64 ii q (by have := HN.out; omega)
        by_cases hql : ii + q < n
        · have hql' : (ii : Int) + (q : Int) < (n : Nat) := by omega
          have hq0 : 0 ≤ (ii : Int) + (q : Int) := by omega
          have hqn : ((ii : Int) + (q : Int)).toNat = ii + q := by omega
          have c0 : wr.cell? ⟨ga, oa + (ii + q), none⟩ = some (.int .u8 (a (ii + q) : Nat)) := (HQ.out.2.cell (p := ⟨ga, oa + (ii + q), none⟩) HCA.out.1).trans (HCA.out.2 _ hql)
          have c1 : wr.cell? ⟨gb, ob + (ii + q), none⟩ = some (.int .u8 (b (ii + q) : Nat)) := (HQ.out.2.cell (p := ⟨gb, ob + (ii + q), none⟩) HCB.out.1).trans (HCB.out.2 _ hql)
          by_cases hab : a (ii + q) = b (ii + q)
          · have hab' : ((a (ii + q) : Int) != (b (ii + q) : Int)) = false := by simp [hab]
            have hdf : d (ii + q) = false := by rw [HD.out]; simp [hab]
            have HDF := Lib.hid hdf
            clear hdf
            go_upto_region 10 with fail
            refine wp_region_plan 19 [(0, false), (1, false), (2, false), (3, false), (4, false), (5, false), (6, false), (7, false), (8, false), (9, false), (10, false), (11, false), (12, false), (13, false), (14, false), (15, false), (16, false), (17, false), (18, false)] (fun w' => w'.cell? ⟨ga, oa + (ii + q), none⟩ = some (.int .u8 (a (ii + q) : Nat)) ∧ w'.cell? ⟨gb, ob + (ii + q), none⟩ = some (.int .u8 (b (ii + q) : Nat))) (by kernel_rfl) (by kernel_rfl) (fun c a d v w h => by cases d <;> exact h) ⟨c0, c1⟩ ?_
            repeat
              first
              | (first | refine wpPlan_read (v := ?_) (by rfl) (by rfl) (fun w' hS => ?_) (fun K hK => ?_) | refine wpPlan_readG (v := ?_) (by rfl) (by rfl) (fun w' hS => ?_) (fun K hK => ?_)
                 rotate_left
                 · obtain ⟨s0, s1⟩ := hS
                   go_simp
                   try with_reducible rfl
                 go_simp
                 refine hK _ ?_
                 clear hK K)
              | (refine wpPlan_skip (by rfl) (by rfl) (fun K hK => ?_)
                 go_simp
                 refine hK _ ?_
                 clear hK K)
            show wpList _ _ _ _ _ _
            have HQ2 : Hid ((∀ j, ii ≤ j → j < ii + q → d j = true) ∧ Below w1.heap.size w1 wr.drew) := Lib.hid ⟨HQ.out.1, HQ.out.2.os, HQ.out.2.tape, HQ.out.2.output, HQ.out.2.size, HQ.out.2.block⟩
            clear HQ c0 c1
            generalize wr.drew = W3 at HQ2 ⊢
            by_cases hz : q = 0
            · subst hz
              have HI2 : Hid (SC.Inv d n (ii + 1) kk ∧ Below w1.heap.size w1 W3) := Lib.hid ⟨SC.inv_skip HI.out.1 hlt (by have := HDF.out; simpa using this), HQ2.out.2⟩
              clear HQ2
              go_wp2_with fail
              go_roundw
              case rel => exact ⟨kk, ii + 1, rfl, rfl, HI2⟩
              case measure => first | exact cmea n ii 1 (by omega) hlt (by have := HN.out; omega) | (simp [intOf]; omega)
            · have HQ := HQ2
              clear HQ2
              obtain ⟨z, rfl⟩ : ∃ z, q = z + 1 := ⟨q - 1, by omega⟩
              obtain ⟨k1, k2⟩ := SC.inv_run HI.out.1 (n := z) (by omega) HQ.out.1 (fun h => by have := HDF.out; simpa using this)
              have hkl : kk < (SC.out d n).length := (List.getElem?_eq_some_iff.1 k1).1
              have hkv := (List.getElem?_eq_some_iff.1 k1).2
              obtain ⟨g, rfl, hg1, hg2, hgc⟩ := HP.out (by omega)
              have e0 := (hgc kk hkl).1
              have e1 := (hgc kk hkl).2
              rw [hkv] at e0 e1
              have d0 : W3.cell? ⟨g, kk * 2, none⟩ = some (.int .i64 (ii : Nat)) := (HQ.out.2.cell (p := ⟨g, kk * 2, none⟩) hg2).trans e0
              have d1 : W3.cell? ⟨g, kk * 2 + 1, none⟩ = some (.int .i64 ((z + 1 : Nat) : Int)) := (HQ.out.2.cell (p := ⟨g, kk * 2 + 1, none⟩) hg2).trans e1
              have HI2 := Lib.hid k2
              have f1 : ¬ ((SC.out d n).length : Int) ≤ (kk : Int) := by omega
              have f2 : (kk : Int) < ((SC.out d n).length : Nat) := by omega
              have f3 : (0 : Int) < ((z + 1 : Nat) : Int) := by omega
              have f4 : max ((z + 1 : Nat) : Int) 1 = ((z + 1 : Nat) : Int) := by omega
              have HBE := Lib.hid HQ.out.2
              have HZ : Hid (ii + (z + 1) ≤ n ∧ kk ≤ n) := Lib.hid ⟨by omega, by have := SC.out_len d n; omega⟩
              clear hkv hgc e0 e1 k1 k2 HQ hg1 hg2 hkl
              go_wp2_with fail
              go_roundw
              case rel => exact ⟨kk + 1, ii + (z + 1), by rw [sw64 kk (by have := HZ.out; have := HN.out; omega)], rfl, Lib.hid ⟨HI2.out, HBE.out⟩⟩
              case measure => first | exact cmea n ii (z + 1) (by omega) hlt (by have := HZ.out; have := HN.out; omega) | (simp [intOf]; omega)
          · have hab' : ((a (ii + q) : Int) != (b (ii + q) : Int)) = true := by simp; omega
            have hdt : d (ii + q) = true := by rw [HD.out]; simp [hab]
            have HDT : Hid (∀ j, ii ≤ j → j < ii + (q + 1) → d j = true) := Lib.hid (fun j h1 h2 => by
              by_cases hj : j = ii + q
              · rw [hj]; exact hdt
              · exact HQ.out.1 j h1 (by omega))
            clear hdt
            go_upto_region 10 with fail
            refine wp_region_plan 19 [(0, false), (1, false), (2, false), (3, false), (4, false), (5, false), (6, false), (7, false), (8, false), (9, false), (10, false), (11, false), (12, false), (13, false), (14, false), (15, false), (16, false), (17, false), (18, false)] (fun w' => w'.cell? ⟨ga, oa + (ii + q), none⟩ = some (.int .u8 (a (ii + q) : Nat)) ∧ w'.cell? ⟨gb, ob + (ii + q), none⟩ = some (.int .u8 (b (ii + q) : Nat))) (by kernel_rfl) (by kernel_rfl) (fun c a d v w h => by cases d <;> exact h) ⟨c0, c1⟩ ?_
            repeat
              first
              | (first | refine wpPlan_read (v := ?_) (by rfl) (by rfl) (fun w' hS => ?_) (fun K hK => ?_) | refine wpPlan_readG (v := ?_) (by rfl) (by rfl) (fun w' hS => ?_) (fun K hK => ?_)
                 rotate_left
                 · obtain ⟨s0, s1⟩ := hS
                   go_simp
                   try with_reducible rfl
                 go_simp
                 refine hK _ ?_
                 clear hK K)
              | (refine wpPlan_skip (by rfl) (by rfl) (fun K hK => ?_)
                 go_simp
                 refine hK _ ?_
                 clear hK K)
            show wpList _ _ _ _ _ _
            have HQ2 : Hid (Below w1.heap.size w1 wr.drew) := Lib.hid ⟨HQ.out.2.os, HQ.out.2.tape, HQ.out.2.output, HQ.out.2.size, HQ.out.2.block⟩
            clear HQ c0 c1
            generalize wr.drew = W3 at HQ2 ⊢
            go_wp2_with fail
            go_roundw
            case rel => exact ⟨q + 1, rfl, by omega, Lib.hid ⟨HDT.out, HQ2.out⟩⟩
            case measure => first | exact cmea n q 1 (by omega) (by omega) (by have := HN.out; omega) | (simp [intOf]; omega)
        · have hql' : ¬ (ii : Int) + (q : Int) < (n : Nat) := by omega
          go_upto_region 10 with fail
          refine wp_region_plan 19 [(0, false), (1, false), (2, false), (3, false), (4, false), (5, false), (6, false), (7, false), (8, false), (9, false), (10, false), (11, false), (12, false), (13, false), (14, false), (15, false), (16, false), (17, false), (18, false)] (fun _ => True ∧ True) (by kernel_rfl) (by kernel_rfl) (fun c a d v w h => by cases d <;> exact h) ⟨trivial, trivial⟩ ?_
          repeat
            first
            | (first | refine wpPlan_read (v := ?_) (by rfl) (by rfl) (fun w' hS => ?_) (fun K hK => ?_) | refine wpPlan_readG (v := ?_) (by rfl) (by rfl) (fun w' hS => ?_) (fun K hK => ?_)
               rotate_left
               · obtain ⟨s0, s1⟩ := hS
                 go_simp
                 try with_reducible rfl
               go_simp
               refine hK _ ?_
               clear hK K)
            | (refine wpPlan_skip (by rfl) (by rfl) (fun K hK => ?_)
               go_simp
               refine hK _ ?_
               clear hK K)
          show wpList _ _ _ _ _ _
          have HQ2 : Hid ((∀ j, ii ≤ j → j < ii + q → d j = true) ∧ Below w1.heap.size w1 wr.drew) := Lib.hid ⟨HQ.out.1, HQ.out.2.os, HQ.out.2.tape, HQ.out.2.output, HQ.out.2.size, HQ.out.2.block⟩
          clear HQ
          generalize wr.drew = W3 at HQ2 ⊢
          have HQ := HQ2
          clear HQ2
          obtain ⟨z, rfl⟩ : ∃ z, q = z + 1 := ⟨q - 1, by omega⟩
          obtain ⟨k1, k2⟩ := SC.inv_run HI.out.1 (n := z) (by omega) HQ.out.1 (fun h => absurd h (by omega))
          have hkl : kk < (SC.out d n).length := (List.getElem?_eq_some_iff.1 k1).1
          have hkv := (List.getElem?_eq_some_iff.1 k1).2
          obtain ⟨g, rfl, hg1, hg2, hgc⟩ := HP.out (by omega)
          have e0 := (hgc kk hkl).1
          have e1 := (hgc kk hkl).2
          rw [hkv] at e0 e1
          have d0 : W3.cell? ⟨g, kk * 2, none⟩ = some (.int .i64 (ii : Nat)) := (HQ.out.2.cell (p := ⟨g, kk * 2, none⟩) hg2).trans e0
          have d1 : W3.cell? ⟨g, kk * 2 + 1, none⟩ = some (.int .i64 ((z + 1 : Nat) : Int)) := (HQ.out.2.cell (p := ⟨g, kk * 2 + 1, none⟩) hg2).trans e1
          have HI2 := Lib.hid k2
          have f1 : ¬ ((SC.out d n).length : Int) ≤ (kk : Int) := by omega
          have f2 : (kk : Int) < ((SC.out d n).length : Nat) := by omega
          have f3 : (0 : Int) < ((z + 1 : Nat) : Int) := by omega
          have f4 : max ((z + 1 : Nat) : Int) 1 = ((z + 1 : Nat) : Int) := by omega
          have HBE := Lib.hid HQ.out.2
          have HZ : Hid (ii + (z + 1) ≤ n ∧ kk ≤ n) := Lib.hid ⟨by omega, by have := SC.out_len d n; omega⟩
          clear hkv hgc e0 e1 k1 k2 HQ hg1 hg2 hkl
          go_wp2_with fail
          go_roundw
          case rel => exact ⟨kk + 1, ii + (z + 1), by rw [sw64 kk (by have := HZ.out; have := HN.out; omega)], rfl, Lib.hid ⟨HI2.out, HBE.out⟩⟩
          case measure => first | exact cmea n ii (z + 1) (by omega) hlt (by have := HZ.out; have := HN.out; omega) | (simp [intOf]; omega)
    · have hlt' : ¬ (ii : Int) < (n : Nat) := by omega
      have hk := SC.inv_end HI.out.1 (by omega)
      subst hk
      have hbl : Below w.heap.size w wr := HB1.out.trans (HI.out.2.mono HB1.out.size)
      have HBL := Lib.hid hbl
      clear hbl
      go_wp2_with fail
      refine (HLV.out _ HBL.out).mono ?_
      rintro e w5 ⟨rfl, hb5⟩
      have HB5 := Lib.hid (HBL.out.trans (hb5.mono HBL.out.size))
      clear hb5
      go_wp2_with fail
      go_ret
      exact ⟨rfl, HB5.out⟩
theorem chgL_any (A B : Option Addr) (n m ca cb : Nat) (a b : Nat → Nat) (w : World) (hA : Bts w A n a) (hB : Bts w B m b)
    (hlv : ∀ W, Below w.heap.size w W → Calls Tryz.prog 7 #[] W fun e w' => e = .returned (.bool true) ∧ Below W.heap.size W w') :
    Calls Tryz.prog 4 #[.slice A n ca, .slice B m cb] w fun e w' => e = .returned (.bool true) ∧ Below w.heap.size w w' := by
  by_cases h : 300 < n ∨ 300 < m
  · exact chgL_big A B n m ca cb a b w hA hB h hlv
  · by_cases hmn : m = n
    · subst hmn
      exact chgL_eq A B _ ca cb a b w hA hB (by omega) hlv
    · exact chgL_ne A B n m ca cb a b w hA hB (by omega) (by omega) (fun e => hmn e.symm) hlv
end Go.Proofs.YtojmckbpafkagaaGreatDoor
