/- The field of a number that is written with its digits. -/
import Derived.Test.YtphofgokcfdobaaDoorWNumP
import Derived.Test.YtphofgokcfdobaaDoorWDig
namespace Go.Proofs.YtphofgokcfdobaaDoor
set_option maxRecDepth 100000
namespace WP
/-- A number's text: digits, and digits behind a period, if there are any. -/
def body (W P : List UInt8) : List UInt8 := if P = [] then W else W ++ 46 :: P
def pic (W P : List UInt8) : List UInt8 := if P = [] then List.replicate W.length 57 else List.replicate W.length 57 ++ 86 :: List.replicate P.length 57
theorem allDig_no46 (l : List UInt8) (h : allDig l = true) : (46 : UInt8) ∉ l := by
  intro hm
  simp only [allDig, List.all_eq_true] at h
  exact absurd (h _ hm) (by decide)
theorem body_head (W P : List UInt8) (hW : allDig W = true) (hn : W ≠ [] ∨ P ≠ []) : ∃ b l, body W P = b :: l ∧ isSgn b = false := by
  unfold body
  cases W with
  | nil =>
    have hP : P ≠ [] := hn.resolve_left (by simp)
    exact ⟨46, P, by simp [hP], by decide⟩
  | cons b t =>
    rw [allDig_cons, Bool.and_eq_true] at hW
    refine ⟨b, if P = [] then t else t ++ 46 :: P, ?_, (isDig_sgn b hW.1).1⟩
    split <;> simp_all
theorem cut_body (W P : List UInt8) (hW : allDig W = true) : Lib.cut (body W P) [46] = (W, P, !P.isEmpty) := by
  unfold body
  by_cases h : P = []
  · subst h
    rw [if_pos rfl, cut_miss W (allDig_no46 W hW)]; rfl
  · rw [if_neg h, cut_hit W P (allDig_no46 W hW)]
    have : P.isEmpty = false := by simpa using h
    rw [this]; rfl
theorem numR_core (l W P : List UInt8) (hW : allDig W = true) (hP : allDig P = true) (hn : W ≠ [] ∨ P ≠ []) (hl : W.length + P.length ≤ 18) (hr : nRest l = body W P) (hd : l.length - (body W P).length ≤ 1) :
    numR l = .ok { cat := 4, pic := (if nSigned l then [83] else []) ++ pic W P, digits := W.length + P.length, scale := P.length, signed := nSigned l, bytes := if nSigned l then overpunch (nMinus l) (W ++ P) else W ++ P } := by
  have hc : nCut l = (W, P, !P.isEmpty) := by unfold nCut; rw [hr, cut_body W P hW]
  have hdg : nDigs l = W ++ P := by unfold nDigs; rw [hc]
  have hD : isDigs (W ++ P) = true := by
    unfold isDigs
    rw [allDig_app, hW, hP]
    have : (W ++ P).isEmpty = false := by
      cases W with
      | nil => have : P ≠ [] := hn.resolve_left (by simp); simpa using this
      | cons b t => rfl
    rw [this]; rfl
  unfold numR
  rw [hr, hdg, if_neg ?_, if_neg (by rw [List.length_append]; omega)]
  · rw [hc]
    simp only [Except.ok.injEq]
    have e1 : nPic l = (if nSigned l then [83] else []) ++ pic W P := by
      unfold nPic pic
      rw [hc]
      by_cases h : P = []
      · subst h; simp
      · have : P.isEmpty = false := by simpa using h
        simp [h]
    have e2 : nBytes l = if nSigned l then overpunch (nMinus l) (W ++ P) else W ++ P := by unfold nBytes; rw [hdg]
    rw [e1, e2, List.length_append]
  · rintro (h | h | ⟨h, h2⟩)
    · omega
    · rw [hD] at h; cases h
    · rw [hc] at h h2
      simp only at h h2
      rw [h2] at h; cases h
theorem numR_plain (W P : List UInt8) (hW : allDig W = true) (hP : allDig P = true) (hn : W ≠ [] ∨ P ≠ []) (hl : W.length + P.length ≤ 18) :
    numR (body W P) = .ok { cat := 4, pic := pic W P, digits := W.length + P.length, scale := P.length, signed := false, bytes := W ++ P } := by
  obtain ⟨b, l, e, hb⟩ := body_head W P hW hn
  have hr : nRest (body W P) = body W P := by rw [e, nRest_plain b l hb]
  have hs : nSigned (body W P) = false := by unfold nSigned; rw [hr]; simp
  rw [numR_core _ W P hW hP hn hl hr (by omega), hs]
  rfl
theorem numR_signed (c : UInt8) (hc : c = 43 ∨ c = 45) (W P : List UInt8) (hW : allDig W = true) (hP : allDig P = true) (hn : W ≠ [] ∨ P ≠ []) (hl : W.length + P.length ≤ 18) :
    numR (c :: body W P) = .ok { cat := 4, pic := 83 :: pic W P, digits := W.length + P.length, scale := P.length, signed := true, bytes := overpunch (c == 45) (W ++ P) } := by
  obtain ⟨b, l, e, hb⟩ := body_head W P hW hn
  have hr : nRest (c :: body W P) = body W P := by
    rcases hc with rfl | rfl
    · rw [e, nRest_plus_sgn b l hb]
    · rw [nRest_minus]
  have hs : nSigned (c :: body W P) = true := by unfold nSigned; rw [hr]; simp
  have hm : nMinus (c :: body W P) = (c == 45) := by unfold nMinus; simp
  rw [numR_core _ W P hW hP hn hl hr (by simp), hs, hm]
  rfl
theorem dgs_dig (n : Nat) (l : List UInt8) : allDig (dgs n l) = true := by
  unfold allDig dgs
  rw [List.all_map, List.all_eq_true]
  intro c _
  have := dgB_nat c
  have h10 : 0 ≤ (c.toNat : Int) % 10 ∧ (c.toNat : Int) % 10 < 10 := by omega
  exact decide_eq_true (by omega)
theorem dgs_len (n : Nat) (l : List UInt8) : (dgs n l).length ≤ n := by unfold dgs; rw [List.length_map, List.length_take]; omega
end WP
end Go.Proofs.YtphofgokcfdobaaDoor
