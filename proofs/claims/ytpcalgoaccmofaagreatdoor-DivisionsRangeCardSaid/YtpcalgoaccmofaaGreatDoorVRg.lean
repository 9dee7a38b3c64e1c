/- divisions.Range: what it returns, for any paragraphs whose tokens are nil and whose positions are zero. -/
import Derived.Test.YtpcalgoaccmofaaGreatDoorBase
import Derived.Test.YtpcalgoaccmofaaGreatDoorStruct
import Derived.Test.YtpcalgoaccmofaaGreatDoorVRangeP
set_option linter.unusedVariables false
set_option linter.unusedSimpArgs false
namespace Go.Proofs.YtpcalgoaccmofaaGreatDoor
open Go.RowKit
set_option maxRecDepth 100000
abbrev VB := List UInt8
theorem veq (x k : VB) : ((⟨x.toArray⟩ : ByteArray).toList == (⟨k.toArray⟩ : ByteArray).toList) = decide (x = k) := by
  have h : ∀ l : VB, (⟨l.toArray⟩ : ByteArray).toList = l := fun l => by rw [ByteArray.toList_eq]
  rw [h, h]; by_cases e : x = k <;> simp [e]
theorem vnil {n : VB} (h : n ≠ []) : (⟨n.toArray⟩ : ByteArray).toList ≠ [] ∧ (⟨n.toArray⟩ : ByteArray).toList.isEmpty = false := by
  have e : (⟨n.toArray⟩ : ByteArray).toList = n := by rw [ByteArray.toList_eq]
  rw [e]; exact ⟨h, by cases n with | nil => exact absurd rfl h | cons a t => rfl⟩
abbrev pgRow (x : VB × VB) : List Value := [.string ⟨x.2.toArray⟩, .string ⟨x.1.toArray⟩, .slice none 0 0, .int .i64 0, .int .i64 0]
/-- Paragraphs as pairs (name, section). -/
def PgAt (w : World) (A : Option Addr) (xs : List (VB × VB)) : Prop := 0 < xs.length → ∃ g, A = some ⟨g, 0, none⟩ ∧ g < w.heap.size ∧ ∀ j (h : j < xs.length),
  w.cell? ⟨g, j * 5, none⟩ = some (.string ⟨xs[j].2.toArray⟩) ∧ w.cell? ⟨g, j * 5 + 1, none⟩ = some (.string ⟨xs[j].1.toArray⟩) ∧ w.cell? ⟨g, j * 5 + 2, none⟩ = some (.slice none 0 0) ∧ w.cell? ⟨g, j * 5 + 3, none⟩ = some (.int .i64 0) ∧ w.cell? ⟨g, j * 5 + 4, none⟩ = some (.int .i64 0)
theorem PgAt.below {w w' : World} {A : Option Addr} {xs : List (VB × VB)} (h : PgAt w A xs) (hb : Below w.heap.size w w') : PgAt w' A xs := fun hn => by
  obtain ⟨g, e, hg, hc⟩ := h hn
  refine ⟨g, e, Nat.lt_of_lt_of_le hg hb.size, fun j hj => ?_⟩
  obtain ⟨h1, h2, h3, h4, h5⟩ := hc j hj
  exact ⟨(hb.cell (p := ⟨g, _, none⟩) hg).trans h1, (hb.cell (p := ⟨g, _, none⟩) hg).trans h2, (hb.cell (p := ⟨g, _, none⟩) hg).trans h3, (hb.cell (p := ⟨g, _, none⟩) hg).trans h4, (hb.cell (p := ⟨g, _, none⟩) hg).trans h5⟩
def rg (xs : List (VB × VB)) (n s : VB) (st : Nat × Nat × Nat) (i : Nat) (x : VB × VB) : Nat × Nat × Nat :=
  if n = [] then st else if s ≠ [] then (if x.1 = n ∧ x.2 = s then (i, i, st.2.2 + 1) else st) else VR.step xs n st i x
def rgOut (st : Nat × Nat × Nat) : Nat × Nat × Nat := if st.2.2 = 0 then (0, 0, 7) else if st.2.2 = 1 then (st.1, st.2.1, 0) else (0, 0, 17)
abbrev pgV (A : Option Addr) (n c : Nat) : Value := .agg #[.string ⟨#[]⟩, .slice none 0 0, .slice none 0 0, .slice none 0 0, .slice none 0 0, .slice none 0 0, .slice none 0 0, .slice none 0 0, .slice A n c]
abbrev pgC (A : Option Addr) (n c : Nat) : Obj := .cells #[.string ⟨#[]⟩, .slice none 0 0, .slice none 0 0, .slice none 0 0, .slice none 0 0, .slice none 0 0, .slice none 0 0, .slice none 0 0, .slice A n c] 32 (0, 0)
abbrev pgZ : Obj := .cells #[.string ⟨#[]⟩, .string ⟨#[]⟩, .slice none 0 0, .int .i64 0, .int .i64 0] 36 (0, 0)
theorem run_succ (f : Nat × Nat × Nat → Nat → VB × VB → Nat × Nat × Nat) (xs : List (VB × VB)) (i : Nat) (h : i < xs.length) : VR.run f xs (i + 1) = f (VR.run f xs i) i xs[i] := by
  simp [VR.run, List.getElem?_eq_getElem h]
theorem rg_cases (xs : List (VB × VB)) (n s : VB) (f l m i : Nat) (x : VB × VB) : ((rg xs n s (f, l, m) i x).1 = f ∨ (rg xs n s (f, l, m) i x).1 = i) ∧ ((rg xs n s (f, l, m) i x).2.1 = l ∨ (rg xs n s (f, l, m) i x).2.1 = i) ∧ (rg xs n s (f, l, m) i x).2.2 ≤ m + 2 := by
  unfold rg
  simp only [VR.step]
  repeat' split
  all_goals simp
/-- first, last, how many: all small. -/
theorem rg_small (xs : List (VB × VB)) (n s : VB) : ∀ i, i ≤ xs.length → (VR.run (rg xs n s) xs i).1 ≤ i - 1 ∧ (VR.run (rg xs n s) xs i).2.1 ≤ i - 1 ∧ (VR.run (rg xs n s) xs i).2.2 ≤ 2 * i
  | 0, _ => ⟨Nat.le_refl _, Nat.le_refl _, Nat.le_refl _⟩
  | i + 1, hi => by
    obtain ⟨h1, h2, h3⟩ := rg_small xs n s i (by omega)
    rw [run_succ _ _ _ (by omega)]
    generalize VR.run (rg xs n s) xs i = st at h1 h2 h3
    obtain ⟨f, l, m⟩ := st
    simp only at h1 h2 h3
    obtain ⟨k1, k2, k3⟩ := rg_cases xs n s f l m i xs[i]
    refine ⟨?_, ?_, by omega⟩
    · rcases k1 with k | k <;> omega
    · rcases k2 with k | k <;> omega
theorem vw64 (k : Nat) (h : k ≤ 100000) : wrap64 ((k : Int) + 1) = ((k + 1 : Nat) : Int) := by
  rw [show ((k : Int) + 1) = ((k + 1 : Nat) : Int) by omega]; unfold wrap64; omega
theorem vsub (l k : Nat) (h : k ≤ 100000) (hl : l ≤ 100000) : ((l : Int) == wrap64 ((k : Int) - 1)) = decide (l + 1 = k) := by
  have e : wrap64 ((k : Int) - 1) = (k : Int) - 1 := by
    unfold wrap64; omega
  rw [e]
  by_cases h : l + 1 = k
  · rw [decide_eq_true h]; simp; omega
  · rw [decide_eq_false h]; simp; omega
theorem vone (m k : Nat) : ((m : Int) == (k : Nat)) = decide (m = k) := by
  by_cases h : m = k
  · rw [decide_eq_true h]; simp; omega
  · rw [decide_eq_false h]; simp; omega
theorem vw64i (k : Nat) (h : k ≤ 100000) : wrap64 ((k : Int) + 1) = (k : Int) + 1 := by unfold wrap64; omega
theorem vw64j (k : Nat) (h : k ≤ 100000) : wrap64 ((k : Int) + 1 + 1) = (k : Int) + 1 + 1 := by unfold wrap64; omega
theorem vmea (L j : Nat) (h : j < L) (hL : L ≤ 1000) : L - (intOf (.int .i64 (wrap64 ((j : Int) + 1)))).toNat < L - (intOf (.int .i64 (j : Nat))).toNat := by
  rw [vw64i j (by omega)]
  show L - ((j : Int) + 1).toNat < L - ((j : Int)).toNat
  omega
/-- What a round of Range does where a name is given and no section. -/
theorem rg_round (xs : List (VB × VB)) (n : VB) (hn : n ≠ []) (f l m j : Nat) (x1 x2 : VB) (xl xf : VB × VB) (hl : xs[l]? = some xl) (hf : xs[f]? = some xf) (b1 : Bool)
    (hb : b1 = (decide (x2 = n) && decide (m = 1) && decide (l + 1 = j) && decide (xl.2 = n) && decide (xf.2 = n))) :
    rg xs n [] (f, l, m) j (x1, x2) = (if x2 = n ∧ x1 = n then ((if b1 = true then (f, j, m) else (j, j, m + 1)).1, (if b1 = true then (f, j, m) else (j, j, m + 1)).2.1, (if b1 = true then (f, j, m) else (j, j, m + 1)).2.2 + 1)
      else if b1 = true then (f, j, m) else if x2 = n ∨ x1 = n then (j, j, m + 1) else (f, l, m)) := by
  have e : (x2 = n ∧ m = 1 ∧ l + 1 = j ∧ (xs[l]?).map (·.2) = some n ∧ (xs[f]?).map (·.2) = some n) = (b1 = true) := by
    rw [hb, hl, hf]
    simp [and_assoc]
  simp only [rg, if_neg hn, ne_eq, not_true_eq_false, if_false, VR.step]
  simp only [e]
  by_cases h2 : x2 = n <;> by_cases h1 : x1 = n <;> simp [h1, h2]
end Go.Proofs.YtpcalgoaccmofaaGreatDoor
