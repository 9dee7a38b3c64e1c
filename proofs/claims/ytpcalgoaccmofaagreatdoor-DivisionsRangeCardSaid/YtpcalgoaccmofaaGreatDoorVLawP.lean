/- DivisionsRange, plain: what Range answers and what the law counts. -/
import Derived.Test.YtpcalgoaccmofaaGreatDoorVRg
set_option linter.unusedVariables false
set_option linter.unusedSimpArgs false
namespace Go.Proofs.YtpcalgoaccmofaaGreatDoor
open Go.RowKit
set_option maxRecDepth 100000
def lw (xs : List (VB × VB)) (n s : VB) (st : Nat × Nat × Nat) (i : Nat) (x : VB × VB) : Nat × Nat × Nat :=
  let (a, b, m) := st
  let st1 := if x.1 = n ∧ (s = [] ∨ x.2 = s) then (i, i, m + 1) else (a, b, m)
  if s = [] ∧ x.2 = n then (if i = 0 ∨ (xs[i - 1]?).map (·.2) ≠ some n then (i, i, st1.2.2 + 1) else (st1.1, i, st1.2.2)) else st1
def lwEnd (xs : List (VB × VB)) (n s : VB) (k : Nat) : Nat × Nat × Nat := if n = [] then (0, 0, 0) else VR.run (lw xs n s) xs k
theorem rg_nil (xs : List (VB × VB)) (s : VB) : ∀ k, VR.run (rg xs [] s) xs k = (0, 0, 0)
  | 0 => rfl
  | k + 1 => by
    unfold VR.run
    rw [rg_nil xs s k]
    cases xs[k]? with
    | none => rfl
    | some x => simp [rg]
theorem lw_nil (xs : List (VB × VB)) (n : VB) : lw xs n [] = VR.lawS xs n := by
  funext st i x
  obtain ⟨a, b, m⟩ := st
  simp [lw, VR.lawS]
theorem rg_step (xs : List (VB × VB)) (n : VB) (hn : n ≠ []) : rg xs n [] = VR.step xs n := by
  funext st i x
  simp [rg, hn]
theorem rg_lw (xs : List (VB × VB)) (n s : VB) (hn : n ≠ []) (hs : s ≠ []) : rg xs n s = lw xs n s := by
  funext st i x
  obtain ⟨a, b, m⟩ := st
  simp [rg, lw, hn, hs]
/-- What the law asks of Range's answer. -/
theorem law_end (xs : List (VB × VB)) (n s : VB) : let o := rgOut (VR.run (rg xs n s) xs xs.length); let t := lwEnd xs n s xs.length
    (t.2.2 = 0 ∧ o = (0, 0, 7)) ∨ (t.2.2 = 1 ∧ o = (t.1, t.2.1, 0)) ∨ (1 < t.2.2 ∧ o = (0, 0, 17)) := by
  intro o t
  by_cases hn : n = []
  · left
    have ht : t = (0, 0, 0) := by show lwEnd xs n s xs.length = _; rw [lwEnd, if_pos hn]
    have ho : o = (0, 0, 7) := by show rgOut _ = _; rw [hn, rg_nil]; rfl
    exact ⟨by rw [ht], ho⟩
  · have ht : t = VR.run (lw xs n s) xs xs.length := by show lwEnd xs n s xs.length = _; rw [lwEnd, if_neg hn]
    by_cases hs : s = []
    · have h := VR.agree xs n
      simp only at h
      have ho : o = rgOut (VR.run (VR.step xs n) xs xs.length) := by show rgOut _ = _; rw [hs, rg_step xs n hn]
      have ht2 : t = VR.run (VR.lawS xs n) xs xs.length := by rw [ht, hs, lw_nil]
      rw [ho, ht2]
      generalize VR.run (VR.step xs n) xs xs.length = p at h ⊢
      generalize VR.run (VR.lawS xs n) xs xs.length = q at h ⊢
      obtain ⟨f, l, m⟩ := p
      obtain ⟨a, b, k⟩ := q
      simp only at h ⊢
      rcases h with ⟨h1, h2⟩ | ⟨h1, h2, h3, h4⟩ | ⟨h1, h2⟩
      · left; exact ⟨h2, by simp [rgOut, h1]⟩
      · right; left; exact ⟨h2, by simp [rgOut, h1, h3, h4]⟩
      · right; right
        exact ⟨by omega, by simp only [rgOut]; rw [if_neg (by omega), if_neg (by omega)]⟩
    · have ho : o = rgOut (VR.run (lw xs n s) xs xs.length) := by show rgOut _ = _; rw [rg_lw xs n s hn hs]
      rw [ho, ht]
      generalize VR.run (lw xs n s) xs xs.length = q
      obtain ⟨a, b, k⟩ := q
      simp only
      rcases Nat.lt_trichotomy k 1 with h | h | h
      · left; exact ⟨by omega, by simp only [rgOut]; rw [if_pos (by omega)]⟩
      · right; left; exact ⟨h, by simp [rgOut, h]⟩
      · right; right; exact ⟨h, by simp only [rgOut]; rw [if_neg (by omega), if_neg (by omega)]⟩
theorem lw_cases (xs : List (VB × VB)) (n s : VB) (a b m i : Nat) (x : VB × VB) : ((lw xs n s (a, b, m) i x).1 = a ∨ (lw xs n s (a, b, m) i x).1 = i) ∧ ((lw xs n s (a, b, m) i x).2.1 = b ∨ (lw xs n s (a, b, m) i x).2.1 = i) ∧ (lw xs n s (a, b, m) i x).2.2 ≤ m + 2 := by
  simp only [lw]
  repeat' split
  all_goals simp
theorem lw_small (xs : List (VB × VB)) (n s : VB) : ∀ i, i ≤ xs.length → (VR.run (lw xs n s) xs i).1 ≤ i ∧ (VR.run (lw xs n s) xs i).2.1 ≤ i ∧ (VR.run (lw xs n s) xs i).2.2 ≤ 2 * i
  | 0, _ => ⟨Nat.le_refl _, Nat.le_refl _, Nat.le_refl _⟩
  | i + 1, hi => by
    obtain ⟨h1, h2, h3⟩ := lw_small xs n s i (by omega)
    rw [run_succ _ _ _ (by omega)]
    generalize VR.run (lw xs n s) xs i = st at h1 h2 h3
    obtain ⟨f, l, m⟩ := st
    simp only at h1 h2 h3
    obtain ⟨k1, k2, k3⟩ := lw_cases xs n s f l m i xs[i]
    refine ⟨?_, ?_, by omega⟩
    · rcases k1 with k | k <;> omega
    · rcases k2 with k | k <;> omega
def nm (k : Nat) : VB := match k with | 1 => [65] | 2 => [66] | 3 => [67] | 4 => [68] | _ => []
def xsOf (ls : List (Nat × Nat)) : List (VB × VB) := ls.map fun p => (nm (p.1 % 5), nm (p.2 % 5))
end Go.Proofs.YtpcalgoaccmofaaGreatDoor
