import Derived.Test.YtjbepnkchoaipaaGreatM13
import Derived.Test.YtjbepnkchoaipaaGreatM12
import Derived.Test.YtjbepnkchoaipaaGreatM06
import Derived.Test.YtjbepnkchoaipaaGreatM05
import Derived.Test.YtjbepnkchoaipaaGreatM14
import Derived.Test.YtjbepnkchoaipaaGreatM09
set_option linter.unusedVariables false
set_option linter.unusedSimpArgs false
/- Contract: take. -/
namespace Go.Proofs.YtjbepnkchoaipaaGreat
open Go.RowKit Go.Lib Go.Maps Go.WideMaps
set_option maxRecDepth 100000
theorem take_stop1 {gen commits : Nat} {now : List (J.B × J.B)} {l : List UInt8} {first : Bool} (h : l.length < 9) : J.take gen commits now l first = .stop := by
  unfold J.take; rw [if_pos (.inl h)]
theorem take_stop2 {gen commits : Nat} {now : List (J.B × J.B)} {l : List UInt8} {first : Bool} (h : (l.length : Int) - 13 < (J.leV ((l.take 9).drop 5) : Nat)) : J.take gen commits now l first = .stop := by
  unfold J.take
  rw [if_pos]
  omega
theorem take_short (p : Nat) (A : Option Addr) (n c : Nat) (l : List UInt8) (first : Bool) (w : World) (M0 : Nat → Prop) (h : By w M0 A n l) (hn : n < 9) :
    Calls Tryz.prog 58 #[.pointer (some ⟨p, 0, none⟩), .slice A n c, .bool first] w fun e w' => e = .returned (.tuple #[.int .i64 0, .int .i64 0]) ∧ w = w' := by
  have h1 : (n : Int) < 9 := by omega
  clear h
  go_enter Tryz.func58, Tryz.ntmps58
  go_wp2_with fail
  go_ret2
  exact ⟨rfl, rfl⟩
set_option maxHeartbeats 4000000 in
theorem take_part (p : Nat) (A : Option Addr) (n c : Nat) (l : List UInt8) (first : Bool) (w : World) (M0 : Nat → Prop) (h : By w M0 A n l) (hc : n ≤ c) (hn : 9 ≤ n) (hnm : n ≤ 90000000) (hs : (n : Int) - 13 < (J.leV ((l.take 9).drop 5) : Nat)) :
    Calls Tryz.prog 58 #[.pointer (some ⟨p, 0, none⟩), .slice A n c, .bool first] w fun e w' => e = .returned (.tuple #[.int .i64 0, .int .i64 0]) ∧ w = w' := by
  have hl : l.length = n := h.1
  have hv : J.leV ((l.take 9).drop 5) < 4294967296 := by
    have := J.leV_lt ((l.take 9).drop 5)
    have e : ((l.take 9).drop 5).length = 4 := by rw [List.length_drop, List.length_take, hl]; omega
    rw [e] at this; exact this
  obtain ⟨b, o, rfl, _⟩ := h.2 (by omega)
  have HG := Lib.hid (get_any (some ⟨b, o + 5, none⟩) 4 (c - 5) _ w M0 (h.slice 5 9 (by omega) hn) (by omega))
  generalize J.leV ((l.take 9).drop 5) = v at hv hs HG
  have HV := Lib.hid hv
  have h1 : ¬ (n : Int) < 9 := by omega
  have h2 : (9 : Int) ≤ (c : Int) := by omega
  have hw1 : IntKind.i64.wrap ((v : Nat) : Int) = (v : Int) := IntWalk.i64_in _ (by omega)
  clear h hv hl
  go_enter Tryz.func58, Tryz.ntmps58
  go_wp2_with fail
  refine HG.out.mono ?_
  rintro e w1 ⟨rfl, rfl⟩
  have hlt : (n : Int) - 9 - 4 < (v : Int) := by omega
  go_wp2_with fail
  go_ret2
  exact ⟨rfl, rfl⟩
theorem key_small {key : List UInt8} (h : key.length ≤ 300) : (⟨key.toArray⟩ : ByteArray).size ≤ maxLen := by
  have e : (⟨key.toArray⟩ : ByteArray).size = key.length := by show key.toArray.size = _; simp
  rw [e]; unfold maxLen; omega
theorem below_drew_t {a b : World} {n : Nat} (h : Below n a.drew b) : Below n a b := ⟨h.os, h.tape, h.output, h.size, h.block⟩
/-- What take does with a record of which all bytes are there. -/
def TakeRes (w : World) (p : Nat) (M : Nat → Prop) (s : J.St) (l : List UInt8) (first : Bool) (e : Ending) (w' : World) : Prop :=
  match J.take s.gen s.commits s.now l first with
  | .stop => False
  | .bad er => e = .returned (.tuple #[.int .i64 0, .int .i64 er]) ∧ ∃ M', Step M M' w w'
  | .took n c now => e = .returned (.tuple #[.int .i64 (n : Nat), .int .i64 0]) ∧ ∃ M', StoreQ w' p M' { s with commits := c, now := now } ∧ Step M M' w w'
theorem take_bad16 {gen commits : Nat} {now : List (J.B × J.B)} {l : List UInt8} {first : Bool} {v : Nat} (hv : J.leV ((l.take 9).drop 5) = v) (hn : v + 13 ≤ l.length) (h : J.chk (l.take (9 + v)) ≠ J.leV ((l.drop (9 + v)).take 4)) : J.take gen commits now l first = .bad 16 := by
  unfold J.take
  rw [hv, if_neg (by omega)]
  dsimp only
  rw [if_pos h]
section
variable {gen commits : Nat} {now : List (J.B × J.B)} {l : List UInt8} {first : Bool} {v : Nat}
theorem take_form1 (hv : J.leV ((l.take 9).drop 5) = v) (hn : v + 13 ≤ l.length) (h : J.chk (l.take (9 + v)) = J.leV ((l.drop (9 + v)).take 4)) (hL : J.changesOf ((l.take (9 + v)).drop 9) = none) : J.take gen commits now l first = .bad 4 := by
  unfold J.take
  rw [hv, if_neg (by omega)]
  dsimp only
  rw [if_neg (not_not_intro h), hL]
theorem take_form2 {L : List J.Chg} (hv : J.leV ((l.take 9).drop 5) = v) (hn : v + 13 ≤ l.length) (h : J.chk (l.take (9 + v)) = J.leV ((l.drop (9 + v)).take 4)) (hL : J.changesOf ((l.take (9 + v)).drop 9) = some L)
    (hok : ¬ (if first = true ∧ 0 < gen then l.headD 0 = 1 else l.headD 0 = 0 ∧ J.leV ((l.take 5).drop 1) = commits + 1)) : J.take gen commits now l first = .bad 4 := by
  unfold J.take
  rw [hv, if_neg (by omega)]
  dsimp only
  rw [if_neg (not_not_intro h), hL]
  dsimp only
  rw [if_pos hok]
theorem take_form3 {L : List J.Chg} (hv : J.leV ((l.take 9).drop 5) = v) (hn : v + 13 ≤ l.length) (h : J.chk (l.take (9 + v)) = J.leV ((l.drop (9 + v)).take 4)) (hL : J.changesOf ((l.take (9 + v)).drop 9) = some L)
    (hok : if first = true ∧ 0 < gen then l.headD 0 = 1 else l.headD 0 = 0 ∧ J.leV ((l.take 5).drop 1) = commits + 1) (ha : J.applyAll now L = none) : J.take gen commits now l first = .bad 4 := by
  unfold J.take
  rw [hv, if_neg (by omega)]
  dsimp only
  rw [if_neg (not_not_intro h), hL]
  dsimp only
  rw [if_neg (not_not_intro hok), ha]
theorem take_good {L : List J.Chg} {now' : List (J.B × J.B)} (hv : J.leV ((l.take 9).drop 5) = v) (hn : v + 13 ≤ l.length) (h : J.chk (l.take (9 + v)) = J.leV ((l.drop (9 + v)).take 4)) (hL : J.changesOf ((l.take (9 + v)).drop 9) = some L)
    (hok : if first = true ∧ 0 < gen then l.headD 0 = 1 else l.headD 0 = 0 ∧ J.leV ((l.take 5).drop 1) = commits + 1) (ha : J.applyAll now L = some now') : J.take gen commits now l first = .took (9 + v + 4) (J.leV ((l.take 5).drop 1)) now' := by
  unfold J.take
  rw [hv, if_neg (by omega)]
  dsimp only
  rw [if_neg (not_not_intro h), hL]
  dsimp only
  rw [if_neg (not_not_intro hok), ha]
end
theorem drop_take4 (l : List UInt8) (k : Nat) : (l.take (k + 4)).drop k = (l.drop k).take 4 := by rw [List.drop_take]; congr 1; omega
set_option maxHeartbeats 8000000 in
theorem take_any (p : Nat) (M : Nat → Prop) (s : J.St) (A : Option Addr) (n c : Nat) (l : List UInt8) (first : Bool) (w : World) (M0 : Nat → Prop) (hst : StoreQ w p M s) (h : By w M0 A n l) (hc : n ≤ c) (hn : 13 ≤ n) (hnm : n ≤ 90000000) (v : Nat) (hv : J.leV ((l.take 9).drop 5) = v) (hs : v + 13 ≤ n) (hcmm : s.commits ≤ 5000000000) (hLs : ∀ L, J.changesOf ((l.take (9 + v)).drop 9) = some L → s.now.length + L.length ≤ 90000000) :
    Calls Tryz.prog 58 #[.pointer (some ⟨p, 0, none⟩), .slice A n c, .bool first] w (TakeRes w p M s l first) := by
  obtain ⟨N, hN⟩ : ∃ N, N = 9 + v := ⟨_, rfl⟩
  obtain ⟨N4, hN4⟩ : ∃ N4, N4 = N + 4 := ⟨_, rfl⟩
  have hl : l.length = n := h.1
  obtain ⟨b, o, rfl, hbl, _, hcl⟩ := h.2 (by omega)
  have HBL := Lib.hid hbl
  have HCL := Lib.hid hcl
  clear hbl hcl
  have HG := Lib.hid (hv ▸ get_any (some ⟨b, o + 5, none⟩) 4 (c - 5) _ w M0 (h.slice 5 9 (by omega) (by omega)) (by omega))
  have HCK := Lib.hid (check_any (some ⟨b, o, none⟩) N c _ w.drew M0 ((h.take (k := N) (by omega)).drew) (by omega))
  have HG2 := Lib.hid (get_any (some ⟨b, o + N, none⟩) (N4 - N) (c - N) _ w.drew M0 (h.slice N N4 (by omega) (by omega)).drew (by omega))
  have hdt : (l.take N4).drop N = (l.drop N).take 4 := by rw [hN4]; exact drop_take4 l N
  rw [hdt] at HG2
  have HV := Lib.hid hv
  have HL := Lib.hid hl
  have HST := Lib.hid hst
  have h1 : ¬ (n : Int) < 9 := by omega
  have h2 : (9 : Int) ≤ (c : Int) := by omega
  have hw1 : IntKind.i64.wrap ((v : Nat) : Int) = (v : Int) := IntWalk.i64_in _ (by omega)
  have hltd : decide ((n : Int) - 9 - 4 < (v : Int)) = false := by simp; omega
  have hlt : ¬ ((n : Int) - 9 - 4 < (v : Int)) := by omega
  have hw9 : (9 : Int) + (v : Int) = (N : Int) := by omega
  have hw13 : (N : Int) + 4 = (N4 : Int) := by omega
  have hc1 : (N : Int) ≤ (c : Int) := by omega
  have hc2 : (N4 : Int) ≤ (c : Int) := by omega
  have hc3 : (N : Int) ≤ (N4 : Int) := by omega
  have HG3 := Lib.hid (get_any (some ⟨b, o + 1, none⟩) 4 (c - 1) _ w.drew M0 ((h.slice 1 5 (by omega) (by omega)).drew) (by omega))
  have HCH := Lib.hid (changesOf_any (some ⟨b, o + 9, none⟩) (N - 9) (c - 9) _ w.drew M0 ((h.slice 9 N (by omega) (by omega)).drew) (by omega) (by omega))
  obtain ⟨nm, hnm⟩ : ∃ nm, nm = J.leV ((l.take 5).drop 1) := ⟨_, rfl⟩
  rw [← hnm] at HG3
  have hnm5 : nm < 4294967296 := by
    rw [hnm]
    have := J.leV_lt ((l.take 5).drop 1)
    have e : ((l.take 5).drop 1).length = 4 := by rw [List.length_drop, List.length_take, hl]; omega
    rw [e] at this; exact this
  have hwnm : IntKind.i64.wrap (nm : Int) = (nm : Int) := IntWalk.i64_in _ (by omega)
  have HNM := Lib.hid hnm5
  have HNE := Lib.hid hnm
  clear hnm5 hnm
  have hN9 : (9 : Int) ≤ (N : Int) := by omega
  have hN9n : 9 ≤ N := by omega
  have hc9 : ¬ c = 9 := by omega
  have hc19 : ¬ c = 1 := by omega
  have hNs : N ≤ 90000000 := by omega
  have hwN4 : IntKind.i64.wrap (N4 : Int) = (N4 : Int) := IntWalk.i64_in _ (by omega)
  have hNN4 : N ≤ N4 := by omega
  have hcN : ¬ c = N := by omega
  have hcv : IntKind.u64.wrap ((J.chk (l.take N) : Nat) : Int) = ((J.chk (l.take N) : Nat) : Int) := by have := J.chk_lt (l.take N); rw [IntKind.wrap_u64]; omega
  have HN := Lib.hid hN
  have HN4 := Lib.hid hN4
  clear hN hN4 hdt
  clear h hv hl hst
  go_enter Tryz.func58, Tryz.ntmps58
  go_wp2_with fail
  refine HG.out.mono ?_
  rintro e w1 ⟨rfl, rfl⟩
  go_wp2_with fail
  all_goals first | (exfalso; omega) | skip
  refine HG.out.mono ?_
  rintro e w1 ⟨rfl, rfl⟩
  go_upto_region 4 with fail
  refine wp_region_plan 11 [(0, false), (1, false), (2, false), (5, false), (6, false), (7, false), (8, false), (9, false), (3, true), (4, false), (10, true)] (fun _ => True) (by kernel_rfl) (by kernel_rfl) (fun c a d v w h => by cases d <;> exact h) trivial ?_
  repeat
    refine wpPlan_read (v := ?_) (by rfl) (by rfl) (fun w' hS => ?_) (fun K hK => ?_)
    rotate_left
    · clear hS
      go_simp
      try with_reducible rfl
    go_simp
    refine hK _ ?_
    clear hK K
  refine wpPlan_write (by rfl) (fun K hK => ?_)
  go_simp
  refine HCK.out.mono ?_
  rintro e w1 ⟨rfl, rfl⟩
  refine hK.out _ _ trivial ?_
  clear hK K
  repeat
    refine wpPlan_read (v := ?_) (by rfl) (by rfl) (fun w' hS => ?_) (fun K hK => ?_)
    rotate_left
    · clear hS
      go_simp
      try with_reducible rfl
    go_simp
    refine hK _ ?_
    clear hK K
  refine wpPlan_write (by rfl) (fun K hK => ?_)
  go_simp
  refine HG2.out.mono ?_
  rintro e w1 ⟨rfl, rfl⟩
  refine hK.out _ _ trivial ?_
  clear hK K
  show wpList _ _ _ _ _ _
  by_cases hsum : J.chk (l.take N) = J.leV ((l.drop N).take 4)
  · have hb : (((J.chk (l.take N) : Nat) : Int) != ((J.leV ((l.drop N).take 4) : Nat) : Int)) = false := by rw [hsum]; simp
    have HSUM := Lib.hid hsum
    clear hsum
    go_wp2_with fail
    refine HG3.out.mono ?_
    rintro e w1 ⟨rfl, rfl⟩
    go_wp2_with fail
    refine HCH.out.mono ?_
    rintro e w1 ⟨hm, hbw⟩
    have hbw : Below w.heap.size w w1 := below_drew_t hbw
    have HBW := Lib.hid hbw
    obtain ⟨bn, bw, ch, wr, b0, b1, b2, b3, d0, d1, d2, d3, q1, q2, q3⟩ := HST.out
    have HR1 := Lib.hid ((hbw.block p (Array.getElem?_eq_some_iff.1 q1).1).trans q1)
    have Q3 := Lib.hid q3
    have Q2 := Lib.hid q2
    have hcp := fun j => cell_of_row w1 p j _ _ _ HR1.out
    clear hbw q1 q2 q3
    cases hL : J.changesOf ((l.take N).drop 9) with
    | none =>
      rw [hL] at hm
      simp only at hm
      subst hm
      have hres : J.take s.gen s.commits s.now l first = .bad 4 := take_form1 HV.out (by rw [HL.out]; omega) (by rw [← HN.out]; exact HSUM.out) (by rw [← HN.out]; exact hL)
      have HRES := Lib.hid hres
      clear hres hL
      have fin : ∀ e w', e = .returned (.tuple #[.int .i64 0, .int .i64 4]) → w' = w1 → TakeRes w p M s l first e w' := by
        rintro e w' rfl rfl
        unfold TakeRes
        rw [HRES.out]
        exact ⟨rfl, M, Step.of_below HBW.out⟩
      have FIN := Lib.hid fin
      clear fin
      go_wp2_with fail
      all_goals (go_ret2; exact FIN.out _ _ rfl rfl)
    | some L =>
      rw [hL] at hm
      simp only at hm
      obtain ⟨vL, rfl, hrow⟩ := hm
      have HROW := Lib.hid hrow
      obtain ⟨AL, nL, cL, rfl, hchs, hnL⟩ := hrow.chs
      have HCS := Lib.hid hchs
      clear hrow hchs
      have hx0 : w1.cell? ⟨b, o, none⟩ = some (.int .u8 ((l.headD 0).toNat : Nat)) := by
        have h0 : 0 < l.length := by have := HL.out; omega
        refine ((HBW.out.cell (p := ⟨b, o, none⟩) HBL.out).trans (HCL.out 0 h0)).trans ?_
        cases l with
        | nil => simp at h0
        | cons y t => rfl
      by_cases hok : (if first = true ∧ 0 < s.gen then l.headD 0 = 1 else l.headD 0 = 0 ∧ J.leV ((l.take 5).drop 1) = s.commits + 1)
      · have HF3 := Lib.hid (fun ha => take_form3 (now := s.now) (first := first) HV.out (by rw [HL.out]; omega) (by rw [← HN.out]; exact HSUM.out) (by rw [← HN.out]; exact hL) hok ha)
        have HF4 := Lib.hid (fun now' ha => take_good (now := s.now) (now' := now') (first := first) HV.out (by rw [HL.out]; omega) (by rw [← HN.out]; exact HSUM.out) (by rw [← HN.out]; exact hL) hok ha)
        have HLEN := Lib.hid (hLs L (by rw [← HN.out]; exact hL))
        have HFIT := Lib.hid (J.changesOf_fit _ _ L (Nat.le_refl _) hL)
        clear hL hLs
        by_cases hf : first = true ∧ 0 < s.gen
        · rw [if_pos hf] at hok
          obtain ⟨rfl, hg⟩ := hf
          have hg1 : (0 : Int) < (s.gen : Int) := by omega
          have hx1 : ((((l.headD 0).toNat : Nat) : Int) == 1) = true := by rw [hok]; rfl
          generalize (l.headD 0).toNat = x0 at hx0 hx1
          clear hok hcmm
          go_upto_region 13 with fail
          clear hx0 hcp
          go_wp2_with fail
          go_loopw [13, 91] (fun _ i wr => ∃ k : Nat, k ≤ L.length ∧ i = .int .i64 k ∧ ∃ mp, J.applyAll s.now (L.take k) = some mp ∧ StoreQ wr p (fun k => M k ∧ k < w.heap.size) { s with now := mp } ∧ Step (fun k => M k ∧ k < w.heap.size) (fun k => M k ∧ k < w.heap.size) w1 wr) (fun _ i _ => L.length - (intOf i).toNat)
          case atStart => exact ⟨0, Nat.zero_le _, rfl, s.now, rfl, HST.out.cap.below HBW.out, Step.refl _ _⟩
          case round =>
            obtain ⟨k, hk, rfl, mp, hap, hq, hstp⟩ := hrel
            have HAP := Lib.hid hap
            have HQ := Lib.hid hq
            have HSTP := Lib.hid hstp
            clear hap hq hstp
            by_cases hlt : k < L.length
            · obtain ⟨g, cg, x, e, hg1g, hg2, r0, r1, r2, hsx⟩ := HROW.out.read hlt
              injection e with e1 e3 e2
              subst e1 e2 e3
              have hM0 : ¬ (M g ∧ g < w.heap.size) := fun h => absurd h.2 (Nat.not_lt.2 hg1g)
              have r0 := (HSTP.out.cell (a := ⟨g, k * 3, none⟩) hg2 hM0).trans r0
              have r1 := (HSTP.out.cell (a := ⟨g, k * 3 + 1, none⟩) hg2 hM0).trans r1
              have r2 := (HSTP.out.cell (a := ⟨g, k * 3 + 2, none⟩) hg2 hM0).trans r2
              have hsx := (hsx.weak (M' := fun k => M k ∧ k < w.heap.size) (fun j h => h.2)).step HSTP.out
              obtain ⟨Ax, rfl⟩ := hsx.slice_
              have HFK := Lib.hid (HFIT.out L[k] (List.getElem_mem hlt)).k
              have HSN := Lib.hid (ap_snoc hlt HAP.out)
              have hml := ap_len _ _ _ HAP.out
              have HML := Lib.hid (show mp.length ≤ 100000000 by have := HLEN.out; rw [List.length_take] at hml; omega)
              have hks : k ≤ 90000000 := by have := HLEN.out; omega
              have hki : (k : Int) < (L.length : Int) := by omega
              have HSX := Lib.hid hsx
              generalize L[k] = cg2 at r0 r1 r2 HSX HSN HFK
              obtain ⟨key, val, gone⟩ := cg2
              simp only at r0 r1 r2
              obtain ⟨bn5, bw5, ch5, wr5, x0', x1', x2', x3', y0, y1, y2, y3, q1, q2, q3⟩ := HQ.out
              have hB5 : Below wr.heap.size wr (wr.alloc (.cells #[.string ⟨key.toArray⟩, .slice Ax val.length val.length, .bool gone] 133)) := (Below.refl _ _).alloc (Nat.le_refl _) _
              have Q1 := Lib.hid ((hB5.block p (Array.getElem?_eq_some_iff.1 q1).1).trans q1)
              have Q2 := Lib.hid q2
              have Q3 := Lib.hid (q3.below hB5)
              have HB5 := Lib.hid hB5
              clear hml hsx q1 q2 q3 hB5 hM0
              cases gone with
              | false =>
                go_wp2_with fail
                refine (apply_put p bn5 _ mp _ ⟨key.toArray⟩ Ax val.length val.length val _ Q1.out rfl Q3.out.now Q3.out.mbn (key_small HFK.out) (HSX.out.step (Step.of_below HB5.out)) HML.out).mono ?_
                rintro e w5 ⟨rfl, hm5, hg5⟩
                have hf5 := q_fin Q3.out Q1.out Q2.out hg5 hm5
                have HF5 := Lib.hid hf5
                clear hm5 hg5 hf5
                go_wp2_with fail
                go_roundw
                case rel =>
                  refine ⟨k + 1, by omega, by go_num, _, HSN.out, HF5.out.1, HSTP.out.trans ((Step.of_below HB5.out).trans HF5.out.2)⟩
                case measure => simp [intOf]; omega
              | true =>
                have hga := apply_gone p bn5 _ mp _ ⟨key.toArray⟩ Ax val.length val.length _ Q1.out rfl Q3.out.now Q3.out.mbn (key_small HFK.out)
                have HGA := Lib.hid hga
                clear hga
                go_wp2_with fail
                refine HGA.out.mono ?_
                rintro e w5 ⟨rfl, hm5, hg5⟩
                have hf5 := q_fin Q3.out Q1.out Q2.out hg5 hm5
                have HF5 := Lib.hid hf5
                clear hm5 hg5 hf5
                have hsn := HSN.out
                simp only [if_true] at hsn
                cases hlk : J.look mp key with
                | none =>
                  rw [if_pos hlk] at hsn
                  have hres := HF3.out (ap_none hsn)
                  have HRES := Lib.hid hres
                  have hst2 := HSTP.out.trans ((Step.of_below HB5.out).trans HF5.out.2)
                  have HST2 := Lib.hid hst2
                  simp only [Option.isSome_none]
                  clear hres hst2 hsn hlk
                  go_wp2_with fail
                  go_ret2
                  unfold TakeRes
                  rw [HRES.out]
                  exact ⟨rfl, _, ((Step.of_below HBW.out).trans HST2.out).uncap⟩
                | some lv =>
                  rw [if_neg (by rw [hlk]; simp)] at hsn
                  have HSN2 := Lib.hid hsn
                  simp only [Option.isSome_some]
                  clear hsn hlk
                  go_wp2_with fail
                  go_roundw
                  case rel =>
                    exact ⟨k + 1, by omega, by go_num, _, HSN2.out, HF5.out.1, HSTP.out.trans ((Step.of_below HB5.out).trans HF5.out.2)⟩
                  case measure => simp [intOf]; omega
            · obtain rfl : k = L.length := by omega
              have hap := HAP.out
              rw [List.take_length] at hap
              have HRES := Lib.hid (HF4.out mp hap)
              obtain ⟨bn5, bw5, ch5, wr5, x0', x1', x2', x3', y0, y1, y2, y3, q1, q2, q3⟩ := HQ.out
              have Q1 := Lib.hid q1
              have Q2 := Lib.hid q2
              have Q3 := Lib.hid q3
              have hc5 := fun j => cell_of_row wr p j _ _ _ q1
              have hf5 := frozen_row q1
              clear hap q1 q2 q3
              go_wp2_with fail
              go_ret2
              have hg5 := grown_set (World.grownBy.refl wr (some p)) 7 (.int .i64 (nm : Int))
              have hrow := blk_set Q1.out 7 (.int .i64 (nm : Int))
              have P := Q3.out.own Q1.out Q2.out hg5
              have e4 : (9 + v + 4 : Nat) = N4 := by rw [HN4.out, HN.out]
              unfold TakeRes
              rw [HRES.out]
              simp only
              rw [e4, ← HNE.out]
              exact ⟨rfl, _, ⟨bn5, bw5, ch5, wr5, x0', x1', x2', x3', y0, y1, y2, y3, hrow, Q2.out, ⟨P.now, P.mbn, P.was, P.chs, P.mch, P.wrs, P.f0, P.f1, P.f2, P.f3, P.e0, P.e1, P.e2, P.e3, P.dd⟩⟩, ((Step.of_below HBW.out).trans (HSTP.out.trans (Step.of_grown hg5 (fun k e _ => by cases e; exact Q2.out)))).uncap⟩
        · rw [if_neg hf] at hok
          obtain ⟨hok1, hok2⟩ := hok
          have hcw : IntKind.i64.wrap ((s.commits : Int) + 1) = (s.commits : Int) + 1 := IntWalk.i64_in _ (by omega)
          have hgz : first = true → s.gen = 0 := fun e => by
            rcases Nat.eq_zero_or_pos s.gen with h | h
            · exact h
            · exact absurd ⟨e, h⟩ hf
          have hx1 : ((((l.headD 0).toNat : Nat) : Int) == 0) = true := by rw [hok1]; rfl
          have hx2 : ((nm : Int) == (s.commits : Int) + 1) = true := by have e : nm = s.commits + 1 := HNE.out.trans hok2; rw [e]; simp
          generalize (l.headD 0).toNat = x0 at hx0 hx1
          clear hok1 hok2 hf hcmm
          cases first with
          | false =>
            clear hgz
            go_upto_region 13 with fail
            clear hx0 hcp
            go_wp2_with fail
            go_loopw [13, 91] (fun _ i wr => ∃ k : Nat, k ≤ L.length ∧ i = .int .i64 k ∧ ∃ mp, J.applyAll s.now (L.take k) = some mp ∧ StoreQ wr p (fun k => M k ∧ k < w.heap.size) { s with now := mp } ∧ Step (fun k => M k ∧ k < w.heap.size) (fun k => M k ∧ k < w.heap.size) w1 wr) (fun _ i _ => L.length - (intOf i).toNat)
            case atStart => exact ⟨0, Nat.zero_le _, rfl, s.now, rfl, HST.out.cap.below HBW.out, Step.refl _ _⟩
            case round =>
              obtain ⟨k, hk, rfl, mp, hap, hq, hstp⟩ := hrel
              have HAP := Lib.hid hap
              have HQ := Lib.hid hq
              have HSTP := Lib.hid hstp
              clear hap hq hstp
              by_cases hlt : k < L.length
              · obtain ⟨g, cg, x, e, hg1g, hg2, r0, r1, r2, hsx⟩ := HROW.out.read hlt
                injection e with e1 e3 e2
                subst e1 e2 e3
                have hM0 : ¬ (M g ∧ g < w.heap.size) := fun h => absurd h.2 (Nat.not_lt.2 hg1g)
                have r0 := (HSTP.out.cell (a := ⟨g, k * 3, none⟩) hg2 hM0).trans r0
                have r1 := (HSTP.out.cell (a := ⟨g, k * 3 + 1, none⟩) hg2 hM0).trans r1
                have r2 := (HSTP.out.cell (a := ⟨g, k * 3 + 2, none⟩) hg2 hM0).trans r2
                have hsx := (hsx.weak (M' := fun k => M k ∧ k < w.heap.size) (fun j h => h.2)).step HSTP.out
                obtain ⟨Ax, rfl⟩ := hsx.slice_
                have HFK := Lib.hid (HFIT.out L[k] (List.getElem_mem hlt)).k
                have HSN := Lib.hid (ap_snoc hlt HAP.out)
                have hml := ap_len _ _ _ HAP.out
                have HML := Lib.hid (show mp.length ≤ 100000000 by have := HLEN.out; rw [List.length_take] at hml; omega)
                have hks : k ≤ 90000000 := by have := HLEN.out; omega
                have hki : (k : Int) < (L.length : Int) := by omega
                have HSX := Lib.hid hsx
                generalize L[k] = cg2 at r0 r1 r2 HSX HSN HFK
                obtain ⟨key, val, gone⟩ := cg2
                simp only at r0 r1 r2
                obtain ⟨bn5, bw5, ch5, wr5, x0', x1', x2', x3', y0, y1, y2, y3, q1, q2, q3⟩ := HQ.out
                have hB5 : Below wr.heap.size wr (wr.alloc (.cells #[.string ⟨key.toArray⟩, .slice Ax val.length val.length, .bool gone] 133)) := (Below.refl _ _).alloc (Nat.le_refl _) _
                have Q1 := Lib.hid ((hB5.block p (Array.getElem?_eq_some_iff.1 q1).1).trans q1)
                have Q2 := Lib.hid q2
                have Q3 := Lib.hid (q3.below hB5)
                have HB5 := Lib.hid hB5
                clear hml hsx q1 q2 q3 hB5 hM0
                cases gone with
                | false =>
                  go_wp2_with fail
                  refine (apply_put p bn5 _ mp _ ⟨key.toArray⟩ Ax val.length val.length val _ Q1.out rfl Q3.out.now Q3.out.mbn (key_small HFK.out) (HSX.out.step (Step.of_below HB5.out)) HML.out).mono ?_
                  rintro e w5 ⟨rfl, hm5, hg5⟩
                  have hf5 := q_fin Q3.out Q1.out Q2.out hg5 hm5
                  have HF5 := Lib.hid hf5
                  clear hm5 hg5 hf5
                  go_wp2_with fail
                  go_roundw
                  case rel =>
                    refine ⟨k + 1, by omega, by go_num, _, HSN.out, HF5.out.1, HSTP.out.trans ((Step.of_below HB5.out).trans HF5.out.2)⟩
                  case measure => simp [intOf]; omega
                | true =>
                  have hga := apply_gone p bn5 _ mp _ ⟨key.toArray⟩ Ax val.length val.length _ Q1.out rfl Q3.out.now Q3.out.mbn (key_small HFK.out)
                  have HGA := Lib.hid hga
                  clear hga
                  go_wp2_with fail
                  refine HGA.out.mono ?_
                  rintro e w5 ⟨rfl, hm5, hg5⟩
                  have hf5 := q_fin Q3.out Q1.out Q2.out hg5 hm5
                  have HF5 := Lib.hid hf5
                  clear hm5 hg5 hf5
                  have hsn := HSN.out
                  simp only [if_true] at hsn
                  cases hlk : J.look mp key with
                  | none =>
                    rw [if_pos hlk] at hsn
                    have hres := HF3.out (ap_none hsn)
                    have HRES := Lib.hid hres
                    have hst2 := HSTP.out.trans ((Step.of_below HB5.out).trans HF5.out.2)
                    have HST2 := Lib.hid hst2
                    simp only [Option.isSome_none]
                    clear hres hst2 hsn hlk
                    go_wp2_with fail
                    go_ret2
                    unfold TakeRes
                    rw [HRES.out]
                    exact ⟨rfl, _, ((Step.of_below HBW.out).trans HST2.out).uncap⟩
                  | some lv =>
                    rw [if_neg (by rw [hlk]; simp)] at hsn
                    have HSN2 := Lib.hid hsn
                    simp only [Option.isSome_some]
                    clear hsn hlk
                    go_wp2_with fail
                    go_roundw
                    case rel =>
                      exact ⟨k + 1, by omega, by go_num, _, HSN2.out, HF5.out.1, HSTP.out.trans ((Step.of_below HB5.out).trans HF5.out.2)⟩
                    case measure => simp [intOf]; omega
              · obtain rfl : k = L.length := by omega
                have hap := HAP.out
                rw [List.take_length] at hap
                have HRES := Lib.hid (HF4.out mp hap)
                obtain ⟨bn5, bw5, ch5, wr5, x0', x1', x2', x3', y0, y1, y2, y3, q1, q2, q3⟩ := HQ.out
                have Q1 := Lib.hid q1
                have Q2 := Lib.hid q2
                have Q3 := Lib.hid q3
                have hc5 := fun j => cell_of_row wr p j _ _ _ q1
                have hf5 := frozen_row q1
                clear hap q1 q2 q3
                go_wp2_with fail
                go_ret2
                have hg5 := grown_set (World.grownBy.refl wr (some p)) 7 (.int .i64 (nm : Int))
                have hrow := blk_set Q1.out 7 (.int .i64 (nm : Int))
                have P := Q3.out.own Q1.out Q2.out hg5
                have e4 : (9 + v + 4 : Nat) = N4 := by rw [HN4.out, HN.out]
                unfold TakeRes
                rw [HRES.out]
                simp only
                rw [e4, ← HNE.out]
                exact ⟨rfl, _, ⟨bn5, bw5, ch5, wr5, x0', x1', x2', x3', y0, y1, y2, y3, hrow, Q2.out, ⟨P.now, P.mbn, P.was, P.chs, P.mch, P.wrs, P.f0, P.f1, P.f2, P.f3, P.e0, P.e1, P.e2, P.e3, P.dd⟩⟩, ((Step.of_below HBW.out).trans (HSTP.out.trans (Step.of_grown hg5 (fun k e _ => by cases e; exact Q2.out)))).uncap⟩
          | true =>
            have hg0 := hgz rfl
            have hg0i : ¬ (0 : Int) < (s.gen : Int) := by omega
            clear hgz
            go_upto_region 13 with fail
            clear hx0 hcp
            go_wp2_with fail
            go_loopw [13, 91] (fun _ i wr => ∃ k : Nat, k ≤ L.length ∧ i = .int .i64 k ∧ ∃ mp, J.applyAll s.now (L.take k) = some mp ∧ StoreQ wr p (fun k => M k ∧ k < w.heap.size) { s with now := mp } ∧ Step (fun k => M k ∧ k < w.heap.size) (fun k => M k ∧ k < w.heap.size) w1 wr) (fun _ i _ => L.length - (intOf i).toNat)
            case atStart => exact ⟨0, Nat.zero_le _, rfl, s.now, rfl, HST.out.cap.below HBW.out, Step.refl _ _⟩
            case round =>
              obtain ⟨k, hk, rfl, mp, hap, hq, hstp⟩ := hrel
              have HAP := Lib.hid hap
              have HQ := Lib.hid hq
              have HSTP := Lib.hid hstp
              clear hap hq hstp
              by_cases hlt : k < L.length
              · obtain ⟨g, cg, x, e, hg1g, hg2, r0, r1, r2, hsx⟩ := HROW.out.read hlt
                injection e with e1 e3 e2
                subst e1 e2 e3
                have hM0 : ¬ (M g ∧ g < w.heap.size) := fun h => absurd h.2 (Nat.not_lt.2 hg1g)
                have r0 := (HSTP.out.cell (a := ⟨g, k * 3, none⟩) hg2 hM0).trans r0
                have r1 := (HSTP.out.cell (a := ⟨g, k * 3 + 1, none⟩) hg2 hM0).trans r1
                have r2 := (HSTP.out.cell (a := ⟨g, k * 3 + 2, none⟩) hg2 hM0).trans r2
                have hsx := (hsx.weak (M' := fun k => M k ∧ k < w.heap.size) (fun j h => h.2)).step HSTP.out
                obtain ⟨Ax, rfl⟩ := hsx.slice_
                have HFK := Lib.hid (HFIT.out L[k] (List.getElem_mem hlt)).k
                have HSN := Lib.hid (ap_snoc hlt HAP.out)
                have hml := ap_len _ _ _ HAP.out
                have HML := Lib.hid (show mp.length ≤ 100000000 by have := HLEN.out; rw [List.length_take] at hml; omega)
                have hks : k ≤ 90000000 := by have := HLEN.out; omega
                have hki : (k : Int) < (L.length : Int) := by omega
                have HSX := Lib.hid hsx
                generalize L[k] = cg2 at r0 r1 r2 HSX HSN HFK
                obtain ⟨key, val, gone⟩ := cg2
                simp only at r0 r1 r2
                obtain ⟨bn5, bw5, ch5, wr5, x0', x1', x2', x3', y0, y1, y2, y3, q1, q2, q3⟩ := HQ.out
                have hB5 : Below wr.heap.size wr (wr.alloc (.cells #[.string ⟨key.toArray⟩, .slice Ax val.length val.length, .bool gone] 133)) := (Below.refl _ _).alloc (Nat.le_refl _) _
                have Q1 := Lib.hid ((hB5.block p (Array.getElem?_eq_some_iff.1 q1).1).trans q1)
                have Q2 := Lib.hid q2
                have Q3 := Lib.hid (q3.below hB5)
                have HB5 := Lib.hid hB5
                clear hml hsx q1 q2 q3 hB5 hM0
                cases gone with
                | false =>
                  go_wp2_with fail
                  refine (apply_put p bn5 _ mp _ ⟨key.toArray⟩ Ax val.length val.length val _ Q1.out rfl Q3.out.now Q3.out.mbn (key_small HFK.out) (HSX.out.step (Step.of_below HB5.out)) HML.out).mono ?_
                  rintro e w5 ⟨rfl, hm5, hg5⟩
                  have hf5 := q_fin Q3.out Q1.out Q2.out hg5 hm5
                  have HF5 := Lib.hid hf5
                  clear hm5 hg5 hf5
                  go_wp2_with fail
                  go_roundw
                  case rel =>
                    refine ⟨k + 1, by omega, by go_num, _, HSN.out, HF5.out.1, HSTP.out.trans ((Step.of_below HB5.out).trans HF5.out.2)⟩
                  case measure => simp [intOf]; omega
                | true =>
                  have hga := apply_gone p bn5 _ mp _ ⟨key.toArray⟩ Ax val.length val.length _ Q1.out rfl Q3.out.now Q3.out.mbn (key_small HFK.out)
                  have HGA := Lib.hid hga
                  clear hga
                  go_wp2_with fail
                  refine HGA.out.mono ?_
                  rintro e w5 ⟨rfl, hm5, hg5⟩
                  have hf5 := q_fin Q3.out Q1.out Q2.out hg5 hm5
                  have HF5 := Lib.hid hf5
                  clear hm5 hg5 hf5
                  have hsn := HSN.out
                  simp only [if_true] at hsn
                  cases hlk : J.look mp key with
                  | none =>
                    rw [if_pos hlk] at hsn
                    have hres := HF3.out (ap_none hsn)
                    have HRES := Lib.hid hres
                    have hst2 := HSTP.out.trans ((Step.of_below HB5.out).trans HF5.out.2)
                    have HST2 := Lib.hid hst2
                    simp only [Option.isSome_none]
                    clear hres hst2 hsn hlk
                    go_wp2_with fail
                    go_ret2
                    unfold TakeRes
                    rw [HRES.out]
                    exact ⟨rfl, _, ((Step.of_below HBW.out).trans HST2.out).uncap⟩
                  | some lv =>
                    rw [if_neg (by rw [hlk]; simp)] at hsn
                    have HSN2 := Lib.hid hsn
                    simp only [Option.isSome_some]
                    clear hsn hlk
                    go_wp2_with fail
                    go_roundw
                    case rel =>
                      exact ⟨k + 1, by omega, by go_num, _, HSN2.out, HF5.out.1, HSTP.out.trans ((Step.of_below HB5.out).trans HF5.out.2)⟩
                    case measure => simp [intOf]; omega
              · obtain rfl : k = L.length := by omega
                have hap := HAP.out
                rw [List.take_length] at hap
                have HRES := Lib.hid (HF4.out mp hap)
                obtain ⟨bn5, bw5, ch5, wr5, x0', x1', x2', x3', y0, y1, y2, y3, q1, q2, q3⟩ := HQ.out
                have Q1 := Lib.hid q1
                have Q2 := Lib.hid q2
                have Q3 := Lib.hid q3
                have hc5 := fun j => cell_of_row wr p j _ _ _ q1
                have hf5 := frozen_row q1
                clear hap q1 q2 q3
                go_wp2_with fail
                go_ret2
                have hg5 := grown_set (World.grownBy.refl wr (some p)) 7 (.int .i64 (nm : Int))
                have hrow := blk_set Q1.out 7 (.int .i64 (nm : Int))
                have P := Q3.out.own Q1.out Q2.out hg5
                have e4 : (9 + v + 4 : Nat) = N4 := by rw [HN4.out, HN.out]
                unfold TakeRes
                rw [HRES.out]
                simp only
                rw [e4, ← HNE.out]
                exact ⟨rfl, _, ⟨bn5, bw5, ch5, wr5, x0', x1', x2', x3', y0, y1, y2, y3, hrow, Q2.out, ⟨P.now, P.mbn, P.was, P.chs, P.mch, P.wrs, P.f0, P.f1, P.f2, P.f3, P.e0, P.e1, P.e2, P.e3, P.dd⟩⟩, ((Step.of_below HBW.out).trans (HSTP.out.trans (Step.of_grown hg5 (fun k e _ => by cases e; exact Q2.out)))).uncap⟩
      · have hres : J.take s.gen s.commits s.now l first = .bad 4 := take_form2 HV.out (by rw [HL.out]; omega) (by rw [← HN.out]; exact HSUM.out) (by rw [← HN.out]; exact hL) hok
        have HRES := Lib.hid hres
        clear hres hL
        have fin : ∀ e w', e = .returned (.tuple #[.int .i64 0, .int .i64 4]) → w' = w1 → TakeRes w p M s l first e w' := by
          rintro e w' rfl rfl
          unfold TakeRes
          rw [HRES.out]
          exact ⟨rfl, M, Step.of_below HBW.out⟩
        have FIN := Lib.hid fin
        clear fin
        by_cases hf : first = true ∧ 0 < s.gen
        · rw [if_pos hf] at hok
          obtain ⟨rfl, hg⟩ := hf
          have hg1 : (0 : Int) < (s.gen : Int) := by omega
          have hx1 : (((l.headD 0).toNat : Nat) : Int) ≠ 1 := fun e => hok (UInt8.toNat_inj.1 (by show _ = 1; omega))
          have hx2 : ((((l.headD 0).toNat : Nat) : Int) == 1) = false := by simpa using hx1
          generalize (l.headD 0).toNat = x0 at hx0 hx1 hx2
          clear hok
          go_wp2_with fail
          all_goals (go_ret2; exact FIN.out _ _ rfl rfl)
        · rw [if_neg hf] at hok
          have hcw : IntKind.i64.wrap ((s.commits : Int) + 1) = (s.commits : Int) + 1 := IntWalk.i64_in _ (by omega)
          have hgz : first = true → s.gen = 0 := fun e => by
            rcases Nat.eq_zero_or_pos s.gen with h | h
            · exact h
            · exact absurd ⟨e, h⟩ hf
          have hbad : ¬ ((((l.headD 0).toNat : Nat) : Int) = 0 ∧ (nm : Int) = (s.commits : Int) + 1) := fun ⟨e1, e2⟩ => hok ⟨UInt8.toNat_inj.1 (by show _ = 0; omega), by rw [← HNE.out]; omega⟩
          have hbd : ((((l.headD 0).toNat : Nat) : Int) == 0) = false ∨ ((((l.headD 0).toNat : Nat) : Int) == 0) = true ∧ ((nm : Int) == (s.commits : Int) + 1) = false := by
            by_cases e : (((l.headD 0).toNat : Nat) : Int) = 0
            · exact .inr ⟨by simpa using e, by have := fun h => hbad ⟨e, h⟩; simpa using this⟩
            · exact .inl (by simpa using e)
          generalize (l.headD 0).toNat = x0 at hx0 hbd
          clear hok hbad hf hcmm
          rcases hbd with hbd | ⟨hbd, hbd2⟩
          · cases first with
            | false =>
              clear hgz
              go_wp2_with fail
              all_goals (go_ret2; exact FIN.out _ _ rfl rfl)
            | true =>
              have hg0 := hgz rfl
              have hg0i : ¬ (0 : Int) < (s.gen : Int) := by omega
              clear hgz
              go_wp2_with fail
              all_goals (go_ret2; exact FIN.out _ _ rfl rfl)
          · cases first with
            | false =>
              clear hgz
              go_wp2_with fail
              all_goals (go_ret2; exact FIN.out _ _ rfl rfl)
            | true =>
              have hg0 := hgz rfl
              have hg0i : ¬ (0 : Int) < (s.gen : Int) := by omega
              clear hgz
              go_wp2_with fail
              all_goals (go_ret2; exact FIN.out _ _ rfl rfl)
  · have hb : (((J.chk (l.take N) : Nat) : Int) != ((J.leV ((l.drop N).take 4) : Nat) : Int)) = true := by simp; omega
    have hres : J.take s.gen s.commits s.now l first = .bad 16 := take_bad16 HV.out (by rw [HL.out]; omega) (by rw [← HN.out]; exact hsum)
    have HRES := Lib.hid hres
    clear hsum hres
    go_wp2_with fail
    go_ret2
    unfold TakeRes
    rw [HRES.out]
    exact ⟨rfl, M, Step.of_below (Below.refl _ w).drew⟩
end Go.Proofs.YtjbepnkchoaipaaGreat
