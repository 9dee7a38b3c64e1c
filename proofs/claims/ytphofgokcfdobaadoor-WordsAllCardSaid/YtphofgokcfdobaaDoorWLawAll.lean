/- The law WordsAll returns true for every number. -/
import Derived.Test.YtphofgokcfdobaaDoorWLives
import Derived.Test.YtphofgokcfdobaaDoorWOfP
import Derived.Test.YtphofgokcfdobaaDoorWAll
import Derived.Deep.QuietTactic
import Derived.BigQuiet
import Derived.Sort.Walk0
namespace Go.Proofs.YtphofgokcfdobaaDoor
open Go.RowKit Go.Shelf
set_option maxRecDepth 100000

theorem fields_litA (l S : ByteArray) (L : List (List UInt8)) (N : Nat) (w : World) (h : l = S) (hs : S.size < 5000) (hL : Lib.fieldsD S.data.toList = L) (hN : L.length = N) (hE : Env w) :
    Calls Tryd.prog 10 #[.string l] w fun e w' => ∃ A, e = .returned (.slice (some ⟨A, 0, none⟩) N N) ∧ w.heap.size ≤ A ∧ Below w.heap.size w w' := by
  subst h; subst hL; subst hN
  exact (fields_any l w (by omega) hE).mono fun e w' ⟨A, he, hA, _, hb⟩ => ⟨A, he, hA, hb⟩
theorem in_litA (s l S : ByteArray) (L : List (List UInt8)) (w : World) (h : l = S) (hs : S.size < 5000) (hL : Lib.fieldsD S.data.toList = L) (hn : L.length ≤ 1000000) (hE : Env w) :
    Calls Tryd.prog 11 #[.string s, .string l] w fun e w' => e = .returned (.int .i64 (WP.inL L s.data.toList)) ∧ Below w.heap.size w w' := by
  subst h; subst hL
  exact in_any s l w (by omega) hn hE
namespace WP
/-- A word of the lists, by its number. -/
def word (k : Nat) : List UInt8 := sortedW.getD k []
theorem word_mem (k : Nat) (h : k < allL.length) : word k ∈ allL := by
  have hl := sortedW_len
  have : k < sortedW.length := by rw [hl]; exact h
  unfold word
  rw [List.getD, List.getElem?_eq_getElem this]
  exact sortedW_perm.mem_iff.1 (List.getElem_mem this)
theorem word_lt (k : Nat) (h : k + 1 < allL.length) : word k < word (k + 1) := by
  have hl := sortedW_len
  have h1 : k + 1 < sortedW.length := by rw [hl]; exact h
  have hp : sortedW.Pairwise (fun a b => leB a b = true) := List.pairwise_mergeSort (fun a b c h1 h2 => by simp only [leB, decide_eq_true_eq] at *; exact List.le_trans h1 h2) (fun a b => by simp only [leB, Bool.or_eq_true, decide_eq_true_eq]; exact List.le_total a b) allW
  have hn : sortedW.Nodup := sortedW_perm.nodup_iff.2 allW_nodup
  unfold word
  rw [List.getD, List.getD, List.getElem?_eq_getElem h1, List.getElem?_eq_getElem (show k < sortedW.length by omega)]
  have h2 := List.pairwise_iff_getElem.1 hp k (k + 1) (by omega) h1 (by omega)
  have h3 := List.pairwise_iff_getElem.1 hn k (k + 1) (by omega) h1 (by omega)
  simp only [leB, decide_eq_true_eq] at h2
  simp only [Option.getD_some]
  rcases Classical.em (sortedW[k]'(by omega) < sortedW[k + 1]) with h | h
  · exact h
  · exact absurd (List.le_antisymm h2 (List.not_lt.1 h)) h3
/-- Is a byte a capital letter? -/
def isUp (b : UInt8) : Bool := decide (65 ≤ (b.toNat : Int) ∧ (b.toNat : Int) ≤ 90)
def ups (l : List UInt8) : Nat := (l.filter isUp).length
def okB (b : UInt8) : Bool := isUp b || (b == 45 || isDig b)
theorem ups_snoc (l : List UInt8) (b : UInt8) : ups (l ++ [b]) = ups l + if isUp b then 1 else 0 := by
  unfold ups; rw [List.filter_append]
  by_cases h : isUp b = true <;> simp [List.filter_cons, h]
theorem allL_ok : allL.all (fun x => decide (0 < ups x ∧ cls x ≠ 0 ∧ 0 ≤ inL allL x) && x.all okB) = true := by decide +kernel
theorem word_ok (k : Nat) (h : k < allL.length) : (0 < ups (word k) ∧ cls (word k) ≠ 0 ∧ 0 ≤ inL allL (word k)) ∧ (word k).all okB = true := by
  have := List.all_eq_true.1 allL_ok _ (word_mem k h)
  simpa using this
theorem word_len (k : Nat) (h : k < allL.length) : (word k).length ≤ 30 := by
  have hA : allL.all (fun x => decide (x.length ≤ 30)) = true := by decide +kernel
  have := List.all_eq_true.1 hA _ (word_mem k h)
  simpa using this
end WP
theorem all_W (w : World) (hE : Env w) (N : Nat) (hN : WP.allL.length = N) :
    Calls Tryd.prog 19 #[] w fun e w' => ∃ A, e = .returned (.slice (some ⟨A, 0, none⟩) N N) ∧ w.heap.size ≤ A ∧ A < w'.heap.size ∧
      (∀ k, k < N → w'.cell? ⟨A, k, none⟩ = some (.string ⟨(WP.word k).toArray⟩)) ∧ Below w.heap.size w w' := by
  have hl : WP.sortedW.length = N := WP.sortedW_len.trans hN
  have hp : 0 < N := by rw [← hN]; exact WP.allL_len.2
  refine (all_any w hE).mono fun e w' ⟨A, he, hA, hc, hb⟩ => ?_
  rw [hl] at he
  have h0 := hc 0 (by omega)
  refine ⟨A, he, hA, cell_lt h0, fun k hk => ?_, hb⟩
  have := hc k (by omega)
  rw [this, WP.word, List.getD, List.getElem?_eq_getElem (by omega)]; rfl

set_option maxHeartbeats 16000000 in
theorem wordsAll_any (n : Nat) (w : World) (hE : Env w) (hn : n < 65536) :
    Calls Tryd.prog 8 #[.int .u16 n] w fun e w' => e = .returned (.bool true) ∧ Below w.heap.size w w' := by
  have HE := Lib.hid hE
  clear hE
  obtain ⟨N, hN⟩ : ∃ N, WP.allL.length = N := ⟨_, rfl⟩
  have hN1 : N ≤ 1000 := by rw [← hN]; exact WP.allL_len.1
  have hN2 : 1 ≤ N := by rw [← hN]; exact WP.allL_len.2
  have HN := Lib.hid hN
  clear hN
  go_enter Tryd.func8, Tryd.ntmps8
  go_wp2_with fail
  refine (all_W _ HE.out N HN.out).mono ?_
  rintro e w1 ⟨A, rfl, hA, hAl, hc, hb⟩
  have HC := Lib.hid hc
  have HB1 := Lib.hid hb
  clear hc hb
  go_wp2_with fail
  refine (fields_litA _ WP.allS WP.allL N _ (by kernel_rfl) WP.allS_size WP.allS_flds HN.out (HE.out.below HB1.out)).mono ?_
  rintro e w2 ⟨A2, rfl, hA2, hb⟩
  have HC2 : Hid (∀ k, k < N → w2.cell? ⟨A, k, none⟩ = some (.string ⟨(WP.word k).toArray⟩)) := fun k hk => (hb.cell (p := ⟨A, k, none⟩) hAl).trans (HC.out k hk)
  have HB2 := Lib.hid (HB1.out.trans (hb.mono HB1.out.size))
  have hAl2 : A < w2.heap.size := Nat.lt_of_lt_of_le hAl hb.size
  clear hb
  go_wp2_with fail
  go_loopw [5] (fun s5 wr => ∃ i : Nat, 1 ≤ i ∧ i ≤ N ∧ s5 = .int .i64 i ∧ Hid (∀ k, k < N → wr.cell? ⟨A, k, none⟩ = some (.string ⟨(WP.word k).toArray⟩)) ∧ Below w.heap.size w wr) (fun s5 _ => N - (intOf s5).toNat)
  case atStart => exact ⟨1, by omega, by omega, rfl, HC2, HB2.out⟩
  case round =>
    obtain ⟨i, hi1, hi, rfl, HCR, hbel⟩ := hrel
    have HBW := Lib.hid hbel
    clear hbel
    by_cases hlt : i < N
    · have hc0 := HCR.out (i - 1) (by omega)
      have hc1 := HCR.out i hlt
      have hw := WP.word_lt (i - 1) (by rw [HN.out]; omega)
      rw [show i - 1 + 1 = i by omega] at hw
      have hl0 := WP.word_len (i - 1) (by rw [HN.out]; omega)
      have hl1 := WP.word_len i (by rw [HN.out]; omega)
      generalize WP.word (i - 1) = x at hc0 hw hl0
      generalize WP.word i = y at hc1 hw hl1
      have hw1 : IntKind.i64.wrap ((i : Int) - 1) = (i : Int) - 1 := IntWalk.i64_in _ (by omega)
      have hw2 : 0 ≤ (i : Int) - 1 := by omega
      have hw3 : ((i : Int) - 1).toNat = i - 1 := by omega
      have hw4 : (i : Int) - 1 < (N : Int) := by omega
      have hw5 : (i : Int) < (N : Int) := by omega
      have hbl : Op.bytesLess x y = true := by rw [bytesLess_eq]; exact decide_eq_true hw
      go_upto_region 8 with fail
      go_quiet (fail)
      go_wp2_with fail
      go_roundw
      case rel => exact ⟨i + 1, by omega, by omega, by go_num, HCR.out, ⟨HBW.out.os, HBW.out.tape, HBW.out.output, HBW.out.size, HBW.out.block⟩⟩
      case measure => simp [intOf]; omega
    · have hge : (N : Int) ≤ (i : Int) := by omega
      have hmod : n % N < N := Nat.mod_lt _ (by omega)
      have hcell := HCR.out (n % N) hmod
      have hok := WP.word_ok (n % N) (by rw [HN.out]; exact hmod)
      have hwl := WP.word_len (n % N) (by rw [HN.out]; exact hmod)
      generalize WP.word (n % N) = x at hcell hok hwl
      obtain ⟨S, hS⟩ : ∃ S : ByteArray, S.data.toList = x := ⟨⟨x.toArray⟩, rfl⟩
      have hSe : (⟨x.toArray⟩ : ByteArray) = S := by rw [← hS]
      rw [hSe] at hcell
      rw [← hS] at hok hwl
      have hSz : S.size ≤ 30 := by rw [Lib.size_eq]; exact hwl
      have HOK := Lib.hid hok
      clear hok hwl hS hSe
      go_wp2_with fail
      go_loopw [7, 8] (fun s7 s8 w3 => ∃ k : Nat, k ≤ S.size ∧ s8 = .int .i64 k ∧ s7 = .int .i64 (WP.ups (S.data.toList.take k)) ∧ w3 = wr) (fun _ s8 _ => S.size - (intOf s8).toNat)
      case atStart => exact ⟨0, Nat.zero_le _, rfl, rfl, rfl⟩
      case round =>
        obtain ⟨k, hk, rfl, rfl, rfl⟩ := hrel
        have hule : WP.ups (S.data.toList.take k) ≤ k := by
          unfold WP.ups
          exact Nat.le_trans (List.length_filter_le _ _) (List.length_take_le _ _)
        by_cases hkl : k < S.size
        · have hkl2 : (k : Int) < (S.size : Int) := by omega
          have hb : WP.okB S[k] = true := List.all_eq_true.1 HOK.out.2 _ (by
            have : S[k] ∈ S.data.toList := by
              show S.data[k] ∈ _
              exact Array.getElem_mem_toList _
            exact this)
          have HU := Lib.hid (WP.ups_snoc (S.data.toList.take k) S[k])
          have HT := Lib.hid (take_snoc S k hkl)
          by_cases hup : WP.isUp S[k] = true
          · have h1 : 65 ≤ ((S[k].toNat : Nat) : Int) ∧ ((S[k].toNat : Nat) : Int) ≤ 90 := of_decide_eq_true hup
            have h2 := h1.1
            have h3 := h1.2
            have HUP := Lib.hid hup
            clear h1 hup hb
            go_wp2_with fail
            go_roundw
            case rel => exact ⟨k + 1, by omega, by go_num, by rw [HT.out, HU.out, if_pos HUP.out]; go_num, trivial⟩
            case measure => simp [intOf]; omega
          · have hup' : WP.isUp S[k] = false := by simpa using hup
            have h1 : ¬ (65 ≤ ((S[k].toNat : Nat) : Int) ∧ ((S[k].toNat : Nat) : Int) ≤ 90) := fun h => by rw [WP.isUp, decide_eq_true h] at hup'; cases hup'
            have h4 : ((S[k].toNat : Nat) : Int) = 45 ∨ (48 ≤ ((S[k].toNat : Nat) : Int) ∧ ((S[k].toNat : Nat) : Int) ≤ 57) := by
              simp only [WP.okB, hup', Bool.false_or, Bool.or_eq_true, beq_iff_eq] at hb
              rcases hb with h | h
              · left; rw [h]; rfl
              · right; exact of_decide_eq_true h
            have HUP := Lib.hid hup'
            clear hup hup' hb
            rcases h4 with h5 | ⟨h5, h6⟩
            · have h7 : (((S[k].toNat : Nat) : Int) == 45) = true := by simp [h5]
              have h8 : (((S[k].toNat : Nat) : Int) != 45) = false := by simp [h5]
              have h9 : ((S[k].toNat : Nat) : Int) < 65 := by omega
              clear h5 h1
              go_wp2_with fail
              go_roundw
              case rel => exact ⟨k + 1, by omega, by go_num, by rw [HT.out, HU.out, HUP.out]; go_num, trivial⟩
              case measure => simp [intOf]; omega
            · have h7 : (((S[k].toNat : Nat) : Int) == 45) = false := by simp; omega
              have h8 : (((S[k].toNat : Nat) : Int) != 45) = true := by simp; omega
              have h9 : ((S[k].toNat : Nat) : Int) < 65 := by omega
              clear h1
              go_wp2_with fail
              go_roundw
              case rel => exact ⟨k + 1, by omega, by go_num, by rw [HT.out, HU.out, HUP.out]; go_num, trivial⟩
              case measure => simp [intOf]; omega
        · have hkl2 : (S.size : Int) ≤ (k : Int) := by omega
          have hall : S.data.toList.take k = S.data.toList := List.take_of_length_le (by rw [← Lib.size_eq]; omega)
          rw [hall] at hule ⊢
          have hpos := HOK.out.1.1
          have hcl := HOK.out.1.2.1
          have hin := HOK.out.1.2.2
          generalize hc : WP.cls S.data.toList = c at hcl
          generalize hi2 : WP.inL WP.allL S.data.toList = j at hin
          generalize WP.ups S.data.toList = u at hule hpos
          have hpos2 : 0 < (u : Int) := by omega
          have hc2 : (c == 0) = false := by simpa using hcl
          have hc3 : (c != 0) = true := by simpa using hcl
          have HCL := Lib.hid hc
          have HI := Lib.hid hi2
          clear hcl hpos hall hc hi2 hi1 hlt
          go_wp2_with fail
          refine (of_c S c _ HCL.out (by unfold maxLen; omega) (HE.out.below HBW.out)).mono ?_
          rintro e w3 ⟨rfl, hb3⟩
          have HB3 := Lib.hid (HBW.out.trans (hb3.mono HBW.out.size))
          clear hb3
          go_wp2_with fail
          refine (in_litA S _ WP.allS WP.allL _ (by kernel_rfl) WP.allS_size WP.allS_flds (by rw [HN.out]; omega) (HE.out.below HB3.out)).mono ?_
          rintro e w4 ⟨rfl, hb4⟩
          rw [HI.out]
          have HB4 := Lib.hid (HB3.out.trans (hb4.mono HB3.out.size))
          clear hb4
          go_wp2_with fail
          refine (lives_any _ (HE.out.below HB4.out)).mono ?_
          rintro e w5 ⟨rfl, hb5⟩
          go_wp2_with fail
          go_ret
          exact ⟨rfl, HB4.out.trans (hb5.mono HB4.out.size)⟩
end Go.Proofs.YtphofgokcfdobaaDoor
