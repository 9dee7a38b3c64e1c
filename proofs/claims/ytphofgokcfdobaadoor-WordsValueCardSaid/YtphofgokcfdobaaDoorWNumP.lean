/- Plain facts on numbers as texts: where they are cut, and which texts are numbers. -/
import Derived.Test.YtphofgokcfdobaaDoorWLit4
namespace Go.Proofs.YtphofgokcfdobaaDoor
set_option maxRecDepth 100000
namespace WP
theorem index_miss : ∀ (r : List UInt8), (46 : UInt8) ∉ r → Lib.index r [46] = -1
  | [], _ => by simp [Lib.index]
  | b :: l, h => by
    have hb : b ≠ 46 := fun e => h (by simp [e])
    have ih := index_miss l (fun hm => h (List.mem_cons_of_mem _ hm))
    have hp : ([46] : List UInt8).isPrefixOf (b :: l) = false := by simp [List.isPrefixOf, Ne.symm hb]
    simp [Lib.index, hp, ih]
theorem index_hit : ∀ (W P : List UInt8), (46 : UInt8) ∉ W → Lib.index (W ++ 46 :: P) [46] = W.length
  | [], P, _ => by simp [Lib.index, List.isPrefixOf]
  | b :: l, P, h => by
    have hb : b ≠ 46 := fun e => h (by simp [e])
    have ih := index_hit l P (fun hm => h (List.mem_cons_of_mem _ hm))
    have hp : ([46] : List UInt8).isPrefixOf (b :: (l ++ 46 :: P)) = false := by simp [List.isPrefixOf, Ne.symm hb]
    simp only [List.cons_append, Lib.index, hp, ih, List.length_cons]
    simp
theorem cut_miss (r : List UInt8) (h : (46 : UInt8) ∉ r) : Lib.cut r [46] = (r, [], false) := by
  unfold Lib.cut; rw [index_miss r h, if_neg (by decide)]
theorem cut_hit (W P : List UInt8) (h : (46 : UInt8) ∉ W) : Lib.cut (W ++ 46 :: P) [46] = (W, P, true) := by
  unfold Lib.cut; rw [index_hit W P h, if_pos (by omega)]
  simp
theorem dot_split : ∀ (r : List UInt8), (46 : UInt8) ∉ r ∨ ∃ W P, r = W ++ 46 :: P ∧ (46 : UInt8) ∉ W
  | [] => .inl (by simp)
  | b :: l => by
    by_cases hb : b = 46
    · exact .inr ⟨[], l, by rw [hb]; rfl, by simp⟩
    · rcases dot_split l with h | ⟨W, P, e, h⟩
      · exact .inl (by simp [h, Ne.symm hb])
      · exact .inr ⟨b :: W, P, by rw [e]; rfl, by simp [h, Ne.symm hb]⟩
/-- A sign in front. -/
def isSgn (b : UInt8) : Bool := b == 43 || b == 45
theorem isDig_sgn (b : UInt8) (h : isDig b = true) : isSgn b = false ∧ b ≠ 46 ∧ b ≠ 43 ∧ b ≠ 45 := by
  have hb : 48 ≤ (b.toNat : Int) ∧ (b.toNat : Int) ≤ 57 := of_decide_eq_true h
  have h1 : b ≠ 43 := fun e => by rw [e] at hb; exact absurd hb (by decide)
  have h2 : b ≠ 45 := fun e => by rw [e] at hb; exact absurd hb (by decide)
  have h3 : b ≠ 46 := fun e => by rw [e] at hb; exact absurd hb (by decide)
  exact ⟨by simp [isSgn, h1, h2], h3, h1, h2⟩
theorem trim1 (c b : UInt8) (l : List UInt8) : Lib.trimPrefix (b :: l) [c] = if b = c then l else b :: l := by
  unfold Lib.trimPrefix Lib.hasPrefix
  by_cases h : b = c
  · subst h; simp [List.isPrefixOf]
  · simp [List.isPrefixOf, h, Ne.symm h]
theorem trim0 (c : UInt8) : Lib.trimPrefix [] [c] = [] := by
  unfold Lib.trimPrefix Lib.hasPrefix; simp
/-- What is left behind the signs. -/
theorem nRest_nil : nRest [] = [] := by unfold nRest; rw [trim0, trim0]
theorem nRest_plain (b : UInt8) (l : List UInt8) (h : isSgn b = false) : nRest (b :: l) = b :: l := by
  simp [isSgn] at h
  unfold nRest; rw [trim1, if_neg h.1, trim1, if_neg h.2]
theorem nRest_minus (l : List UInt8) : nRest (45 :: l) = l := by
  unfold nRest; rw [trim1, if_neg (by decide), trim1, if_pos rfl]
theorem nRest_plus (l : List UInt8) : nRest (43 :: l) = Lib.trimPrefix l [45] := by
  unfold nRest; rw [trim1, if_pos rfl]
theorem nRest_plus_sgn (b : UInt8) (l : List UInt8) (h : isSgn b = false) : nRest (43 :: b :: l) = b :: l := by
  simp [isSgn] at h
  rw [nRest_plus, trim1, if_neg h.2]
/-- The text behind a sign, if there is one. -/
def behindSgn : List UInt8 → List UInt8
  | [] => []
  | b :: l => if isSgn b then l else b :: l
theorem isDigs_no46 (l : List UInt8) (h : isDigs l = true) : (46 : UInt8) ∉ l := by
  intro hm
  simp only [isDigs, allDig, Bool.and_eq_true, List.all_eq_true] at h
  exact absurd (h.2 _ hm) (by decide)
/-- Is each byte a digit or a period? -/
def digDot (l : List UInt8) : Bool := l.all fun b => isDig b || b == 46
def nDg (l : List UInt8) : Nat := (l.filter isDig).length
def nDot (l : List UInt8) : Nat := (l.filter (· == 46)).length
/-- The last byte, or 0. -/
def lastB (l : List UInt8) : UInt8 := l.getLastD 0
theorem lastB_snoc (l : List UInt8) (x : UInt8) : lastB (l ++ [x]) = x := by unfold lastB; simp
/-- The error that the law expects of the text behind the sign. -/
def wantR (r : List UInt8) : Int := if digDot r = false ∨ nDg r = 0 ∨ 1 < nDot r ∨ lastB r = 46 then 4 else if 18 < nDg r then 5 else 0
def errOf : Except Int Fld → Int | .error c => c | .ok _ => 0
/-- The error by the parts of the text behind the sign. -/
def bodyErr (r : List UInt8) : Int :=
  if isDigs ((Lib.cut r [46]).1 ++ (Lib.cut r [46]).2.1) = false ∨ ((Lib.cut r [46]).2.2 = true ∧ (Lib.cut r [46]).2.1 = []) then 4
  else if 18 < ((Lib.cut r [46]).1 ++ (Lib.cut r [46]).2.1).length then 5 else 0
theorem dig_not46 {b : UInt8} (h : isDig b = true) : (b == 46) = false := by simp [(isDig_sgn b h).2.1]
theorem allDig_cons (b : UInt8) (l : List UInt8) : allDig (b :: l) = (isDig b && allDig l) := rfl
theorem allDig_app (a b : List UInt8) : allDig (a ++ b) = (allDig a && allDig b) := by unfold allDig; simp
theorem allDig_nDg : ∀ (l : List UInt8), allDig l = true → nDg l = l.length ∧ nDot l = 0 ∧ digDot l = true
  | [], _ => ⟨rfl, rfl, rfl⟩
  | b :: l, h => by
    rw [allDig_cons, Bool.and_eq_true] at h
    obtain ⟨h1, h2, h3⟩ := allDig_nDg l h.2
    refine ⟨?_, ?_, ?_⟩
    · simp only [nDg, List.filter_cons, h.1, if_true, List.length_cons]; exact congrArg (· + 1) h1
    · simp only [nDot, List.filter_cons, dig_not46 h.1]; exact h2
    · unfold digDot at *; simp only [List.all_cons, h.1, Bool.true_or, Bool.true_and]; exact h3
theorem digDot_no46 : ∀ (l : List UInt8), (46 : UInt8) ∉ l → digDot l = allDig l ∧ nDot l = 0
  | [], _ => ⟨rfl, rfl⟩
  | b :: l, h => by
    have hb : (b == 46) = false := by simp; exact fun e => h (by simp [e])
    obtain ⟨h1, h2⟩ := digDot_no46 l (fun hm => h (List.mem_cons_of_mem _ hm))
    refine ⟨?_, ?_⟩
    · rw [allDig_cons, ← h1]; simp only [digDot, List.all_cons, hb, Bool.or_false]
    · simp only [nDot, List.filter_cons, hb]; exact h2
theorem nDg_le (l : List UInt8) : nDg l ≤ l.length := List.length_filter_le _ _
theorem digDot_app (a b : List UInt8) : digDot (a ++ b) = (digDot a && digDot b) := by unfold digDot; simp
theorem nDg_app (a b : List UInt8) : nDg (a ++ b) = nDg a + nDg b := by unfold nDg; simp
theorem nDot_app (a b : List UInt8) : nDot (a ++ b) = nDot a + nDot b := by unfold nDot; simp
theorem body_want (r : List UInt8) : bodyErr r = wantR r := by
  rcases dot_split r with h | ⟨W, P, rfl, h⟩
  · unfold bodyErr wantR
    rw [cut_miss r h]
    obtain ⟨hd, hn⟩ := digDot_no46 r h
    have hl : lastB r ≠ 46 := by
      intro e
      rcases List.eq_nil_or_concat r with rfl | ⟨t, x, rfl⟩
      · exact absurd e (by decide)
      · rw [List.concat_eq_append] at e h
        rw [lastB_snoc] at e
        exact h (by simp [e])
    simp only [List.append_nil]
    by_cases ha : allDig r = true
    · obtain ⟨h1, h2, h3⟩ := allDig_nDg r ha
      by_cases hz : r = []
      · subst hz; decide
      · have hne : r.isEmpty = false := by simpa using hz
        have hlen : r.length ≠ 0 := by simpa using hz
        have hD : isDigs r = true := by simp [isDigs, hne, ha]
        rw [hD, h3, h1, h2]
        simp [hl, hlen]
    · have ha : allDig r = false := by simpa using ha
      have hD : isDigs r = false := by simp [isDigs, ha]
      rw [hD, hd, ha]; simp
  · unfold bodyErr wantR
    rw [cut_hit W P h]
    obtain ⟨hdW, hnW⟩ := digDot_no46 W h
    have e0 : W ++ 46 :: P = W ++ ([46] ++ P) := rfl
    rw [e0, digDot_app, digDot_app, nDg_app, nDg_app, nDot_app, nDot_app]
    have k1 : digDot [46] = true := by decide
    have k2 : nDg [46] = 0 := by decide
    have k3 : nDot [46] = 1 := by decide
    rw [k1, k2, k3, hnW, hdW, Bool.true_and]
    simp only [Nat.zero_add]
    rcases List.eq_nil_or_concat P with rfl | ⟨t, x, rfl⟩
    · have : lastB (W ++ ([46] ++ [])) = 46 := by rw [List.append_nil, lastB_snoc]
      rw [this]; simp
    · have hne : ¬ (true = true ∧ t.concat x = []) := by simp
      have hlast : lastB (W ++ ([46] ++ t.concat x)) = x := by
        rw [← List.append_assoc, List.concat_eq_append, ← List.append_assoc, lastB_snoc]
      rw [hlast, List.concat_eq_append]
      by_cases hdot : (46 : UInt8) ∈ t ++ [x]
      · have hno : isDigs (W ++ (t ++ [x])) = false := by
          cases hq : isDigs (W ++ (t ++ [x])) with
          | false => rfl
          | true => exact absurd (List.mem_append_right W hdot) (isDigs_no46 _ hq)
        rw [hno]
        have : 1 ≤ nDot (t ++ [x]) := by
          unfold nDot
          exact List.length_pos_of_mem (List.mem_filter.2 ⟨hdot, by decide⟩)
        simp
        omega
      · obtain ⟨hdP, hnP⟩ := digDot_no46 _ hdot
        rw [hdP, hnP]
        have hx : x ≠ 46 := fun e => hdot (by simp [e])
        by_cases ha : allDig W = true ∧ allDig (t ++ [x]) = true
        · obtain ⟨h1, _, _⟩ := allDig_nDg W ha.1
          obtain ⟨h2, _, _⟩ := allDig_nDg _ ha.2
          have hD : isDigs (W ++ (t ++ [x])) = true := by
            simp only [isDigs, allDig_app W, ha.1, ha.2]
            simp
          rw [hD, h1, h2, ha.1, ha.2]
          simp [hx]
        · have hD : isDigs (W ++ (t ++ [x])) = false := by
            simp only [isDigs, allDig_app W]
            rcases Bool.eq_false_or_eq_true (allDig W) with h1 | h1
            · have : allDig (t ++ [x]) = false := by
                rcases Bool.eq_false_or_eq_true (allDig (t ++ [x])) with h2 | h2
                · exact absurd ⟨h1, h2⟩ ha
                · exact h2
              rw [this]; simp
            · rw [h1]; simp
          rw [hD]
          have : (allDig W && allDig (t ++ [x])) = false := by
            rcases Bool.eq_false_or_eq_true (allDig W && allDig (t ++ [x])) with h2 | h2
            · rw [Bool.and_eq_true] at h2; exact absurd h2 ha
            · exact h2
          rw [this]; simp
end WP
end Go.Proofs.YtphofgokcfdobaaDoor
