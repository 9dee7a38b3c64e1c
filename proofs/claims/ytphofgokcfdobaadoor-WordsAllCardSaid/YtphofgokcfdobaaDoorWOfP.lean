/- What the law WordsOf needs of the lists: a word's class and its byte, out of its places in the lists. -/
import Derived.Test.YtphofgokcfdobaaDoorWTab
namespace Go.Proofs.YtphofgokcfdobaaDoor
set_option maxRecDepth 100000
namespace WP
def allL : List (List UInt8) := keysL ++ (verbsL ++ constsL)
def allS : ByteArray := ⟨(joinSp allL).toArray⟩
theorem allS_flds : Lib.fieldsD allS.data.toList = allL := by decide +kernel
theorem allS_size : allS.size < 5000 := by decide +kernel
theorem allL_len : allL.length ≤ 1000 ∧ 1 ≤ allL.length := by decide +kernel
theorem allL_word (k : Nat) (h : k < allL.length) : (allL[k]).length ≤ 30 := by
  have hA : allL.all (fun x => decide (x.length ≤ 30)) = true := by decide +kernel
  have := List.all_eq_true.1 hA _ (List.getElem_mem h)
  simpa using this
def byteL : List UInt8 := [48, 48, 48, 32, 32, 255, 255, 0, 0, 34, 34]

theorem figAt_in (s : List UInt8) : ∀ (L : List (List UInt8 × Nat)), figAt L s = if 0 ≤ inL (L.map (·.1)) s then (L[(inL (L.map (·.1)) s).toNat]?).map (·.2) else none
  | [] => by simp [figAt, inL]
  | p :: t => by
    have ih := figAt_in s t
    have hg := inL_ge (t.map (·.1)) s
    unfold figAt
    simp only [List.map_cons, inL]
    by_cases h : p.1 = s
    · subst h; simp
    · have h' : (s == p.1) = false := by simpa using Ne.symm h
      rw [if_neg (by rw [h']; simp), ih, if_neg h]
      by_cases h1 : inL (t.map (·.1)) s = -1
      · rw [if_neg (by omega), if_pos h1, if_neg (by omega)]
      · rw [if_pos (by omega), if_neg h1, if_pos (by omega)]
        have : (inL (t.map (·.1)) s + 1).toNat = (inL (t.map (·.1)) s).toNat + 1 := by omega
        rw [this, List.getElem?_cons_succ]
theorem inL_lt : ∀ (l : List (List UInt8)) (s : List UInt8), inL l s < l.length
  | [], _ => by simp [inL]
  | x :: l, s => by
    have := inL_lt l s
    unfold inL
    simp only [List.length_cons]
    split
    · omega
    · split <;> omega
theorem figs_fst : figs.map (·.1) = constsL := by decide +kernel
theorem figs_snd : figs.map (·.2) = byteL.map (·.toNat) := by decide +kernel
theorem figIs_in (s : List UInt8) : figIs s = decide (0 ≤ inL constsL s) := by
  unfold figIs fig
  rw [figAt_in, figs_fst]
  have hl := inL_lt constsL s
  by_cases h : 0 ≤ inL constsL s
  · rw [if_pos h]
    have hlen : figs.length = constsL.length := by rw [← figs_fst]; simp
    rw [List.getElem?_eq_getElem (by omega)]
    simp [h]
  · rw [if_neg h]; simp [h]
theorem figByte_in (s : List UInt8) (h : 0 ≤ inL constsL s) : figByte s = ((byteL.getD (inL constsL s).toNat 0).toNat : Int) := by
  have hl := inL_lt constsL s
  unfold figByte fig
  rw [figAt_in, figs_fst, if_pos h]
  have e1 : ∀ k : Nat, ((figs[k]?).map (·.2)).getD 0 = (byteL.getD k 0).toNat := fun k => by
    have := congrArg (fun l => l[k]?) figs_snd
    simp only [List.getElem?_map] at this
    rw [this, List.getD]
    cases byteL[k]? <;> rfl
  rw [e1]
theorem figByte_out (s : List UInt8) (h : ¬ 0 ≤ inL constsL s) : figByte s = 0 := by
  unfold figByte fig
  rw [figAt_in, figs_fst, if_neg h]; rfl
theorem cls_in (s : List UInt8) : cls s = if 0 ≤ inL constsL s then 3 else if 0 ≤ inL verbsL s then 2 else if 0 ≤ inL keysL s then 1 else 0 := by
  unfold cls
  simp only [inL_nonneg]
end WP
end Go.Proofs.YtphofgokcfdobaaDoor
