/- The field of a number, a text and a literal, as functions of their bytes. -/
import Derived.Test.YtphofgokcfdobaaDoorWLit
namespace Go.Proofs.YtphofgokcfdobaaDoor
open Go.RowKit Go.Shelf
set_option maxRecDepth 100000

/-- A field: its category, picture, digits, scale, whether it is signed, its bytes. -/
structure Fld where
  cat : Int
  pic : List UInt8
  digits : Nat
  scale : Nat
  signed : Bool
  bytes : List UInt8

def FldPost (w : World) (f : Fld) (e : Ending) (w' : World) : Prop :=
  ∃ A, e = .returned (.tuple #[.agg (fieldV f.cat f.pic f.digits f.scale f.signed f.bytes.length (.slice (some ⟨A, 0, none⟩) f.bytes.length f.bytes.length)), .int .i64 0]) ∧
    w.heap.size ≤ A ∧ BytesAt w' 5 A f.bytes ∧ Below w.heap.size w w'

def LitPost (w : World) : Except Int Fld → Ending → World → Prop
  | .error c => ErrPost w c
  | .ok f => FldPost w f

def nRest (l : List UInt8) : List UInt8 := Lib.trimPrefix (Lib.trimPrefix l [43]) [45]
def nCut (l : List UInt8) : List UInt8 × List UInt8 × Bool := Lib.cut (nRest l) [46]
def nDigs (l : List UInt8) : List UInt8 := (nCut l).1 ++ (nCut l).2.1
def nSigned (l : List UInt8) : Bool := decide ((nRest l).length < l.length)
def nMinus (l : List UInt8) : Bool := l.head? == some 45
def nPic (l : List UInt8) : List UInt8 := (if nSigned l then [83] else []) ++ (List.replicate (nCut l).1.length 57 ++ (if (nCut l).2.2 then 86 :: List.replicate (nCut l).2.1.length 57 else []))
def nBytes (l : List UInt8) : List UInt8 := if nSigned l then overpunch (nMinus l) (nDigs l) else nDigs l
/-- The field of a number. -/
def numR (l : List UInt8) : Except Int Fld :=
  if 1 < l.length - (nRest l).length ∨ isDigs (nDigs l) = false ∨ ((nCut l).2.2 = true ∧ (nCut l).2.1 = []) then .error 4
  else if 18 < (nDigs l).length then .error 5
  else .ok { cat := 4, pic := nPic l, digits := (nDigs l).length, scale := (nCut l).2.1.length, signed := nSigned l, bytes := nBytes l }
/-- The field of a text. -/
def textR (l : List UInt8) : Except Int Fld :=
  if l.length < 1 ∨ 256 < l.length then .error 5 else .ok { cat := 2, pic := List.replicate l.length 88, digits := 0, scale := 0, signed := false, bytes := l }

theorem trimP_len (l p : List UInt8) : (Lib.trimPrefix l p).length ≤ l.length := by
  unfold Lib.trimPrefix; split <;> simp
theorem nRest_len (l : List UInt8) : (nRest l).length ≤ l.length := Nat.le_trans (trimP_len _ _) (trimP_len _ _)
theorem cut_len (l p : List UInt8) : (Lib.cut l p).1.length + (Lib.cut l p).2.1.length ≤ l.length := by
  unfold Lib.cut
  split
  · simp; omega
  · simp
theorem cut_false (l p : List UInt8) (h : (Lib.cut l p).2.2 = false) : (Lib.cut l p).2.1 = [] := by
  unfold Lib.cut at *
  split at h
  · simp at h
  · rename_i h'; rw [if_neg h']
theorem overpunch_len (m : Bool) (l : List UInt8) (h : 1 ≤ l.length) : (overpunch m l).length = l.length := by
  unfold overpunch; simp; omega

theorem text_any (s : ByteArray) (w : World) : Calls Tryd.prog 31 #[.string s] w (LitPost w (textR s.data.toList)) := by
  have hl : s.data.toList.length = s.size := (Lib.size_eq s).symm
  by_cases h : s.data.toList.length < 1 ∨ 256 < s.data.toList.length
  · rw [textR, if_pos h]
    exact text_bad s w (by rw [hl] at h; omega)
  · rw [textR, if_neg h]
    exact text_ok s w (by omega) (by omega)

theorem number_any (s : ByteArray) (w : World) (hE : Env w) (hs : s.size ≤ 100000) : Calls Tryd.prog 30 #[.string s] w (LitPost w (numR s.data.toList)) := by
  have hl : s.data.toList.length = s.size := (Lib.size_eq s).symm
  obtain ⟨l, hsl⟩ : ∃ l, s.data.toList = l := ⟨_, rfl⟩
  rw [hsl] at hl ⊢
  obtain ⟨r0, hr0⟩ : ∃ r0 : ByteArray, Lib.trimPrefix l [43] = r0.data.toList := ⟨⟨(Lib.trimPrefix l [43]).toArray⟩, rfl⟩
  obtain ⟨r, hr⟩ : ∃ r : ByteArray, nRest l = r.data.toList := ⟨⟨(nRest l).toArray⟩, rfl⟩
  obtain ⟨W, hW⟩ : ∃ W : ByteArray, (nCut l).1 = W.data.toList := ⟨⟨(nCut l).1.toArray⟩, rfl⟩
  obtain ⟨P, hP⟩ : ∃ P : ByteArray, (nCut l).2.1 = P.data.toList := ⟨⟨(nCut l).2.1.toArray⟩, rfl⟩
  have hr1 : Lib.trimPrefix s.data.toList [43] = r0.data.toList := by rw [hsl, hr0]
  have hr2 : Lib.trimPrefix r0.data.toList [45] = r.data.toList := by rw [← hr0, ← hr]; rfl
  have hrl := nRest_len l
  have hrs : (nRest l).length = r.size := by rw [hr]; exact (Lib.size_eq r).symm
  have hc : Lib.cut r.data.toList [46] = (W.data.toList, P.data.toList, (nCut l).2.2) := by rw [← hr, ← hW, ← hP]; rfl
  have hWs : (nCut l).1.length = W.size := by rw [hW]; exact (Lib.size_eq W).symm
  have hPs : (nCut l).2.1.length = P.size := by rw [hP]; exact (Lib.size_eq P).symm
  have hcl := cut_len (nRest l) [46]
  have hcl' : (nCut l).1.length + (nCut l).2.1.length ≤ (nRest l).length := hcl
  have hdg : nDigs l = (W ++ P).data.toList := by rw [data_app, ← hW, ← hP]; rfl
  have hdl : (nDigs l).length = W.size + P.size := by rw [nDigs, List.length_append, hWs, hPs]
  have hle : (r.size : Int) ≤ (s.size : Int) := by omega
  have hWP : (W.size : Int) + (P.size : Int) ≤ 200000 := by omega
  by_cases c1 : 1 < l.length - (nRest l).length
  · rw [numR, if_pos (.inl c1)]
    exact number_form1 s r r0 W P _ w hE hs hr1 hr2 hle hWP hc (by omega)
  by_cases c2 : isDigs (nDigs l) = false
  · rw [numR, if_pos (.inr (.inl c2))]
    exact number_form2 s r r0 W P _ w hE hs hr1 hr2 hle hWP hc (by omega) (by rw [← hdg]; exact c2)
  have c2' : isDigs (W ++ P).data.toList = true := by rw [← hdg]; simpa using c2
  have hemp : ∀ b : Bool, (nCut l).2.1.isEmpty = b → P.toList.isEmpty = b := fun b hb => by rw [Lib.toList_data, ← hP]; exact hb
  by_cases c3 : (nCut l).2.2 = true ∧ (nCut l).2.1 = []
  · rw [numR, if_pos (.inr (.inr c3))]
    exact number_form3 s r r0 W P _ w hE hs hr1 hr2 hle hWP hc (by omega) c2' c3.1 (hemp true (by rw [c3.2]; rfl))
  have hno : ¬ (1 < l.length - (nRest l).length ∨ isDigs (nDigs l) = false ∨ ((nCut l).2.2 = true ∧ (nCut l).2.1 = [])) := by
    rintro (h | h | h)
    · exact c1 h
    · exact c2 h
    · exact c3 h
  by_cases c4 : 18 < (nDigs l).length
  · rw [numR, if_neg hno, if_pos c4]
    by_cases c5 : (nCut l).2.2 = true
    · exact number_width2 s r r0 W P _ w hE hs hr1 hr2 hle hWP hc (by omega) c2' c5 (hemp false (by
        have : (nCut l).2.1 ≠ [] := fun e => c3 ⟨c5, e⟩
        simpa using this)) (by omega)
    · exact number_width1 s r r0 W P _ w hE hs hr1 hr2 hle hWP hc (by omega) c2' (by simpa using c5) (by omega)
  rw [numR, if_neg hno, if_neg c4]
  have hpos : 1 ≤ (nDigs l).length := by
    rcases hq : nDigs l with _ | ⟨x, t⟩
    · rw [hq] at c2; exact absurd rfl c2
    · simp
  have hfin : ∀ (signed part minus : Bool), nSigned l = signed → (nCut l).2.2 = part → (signed = true → nMinus l = minus) → ∀ e w', NumPost w W P signed part minus e w' →
      FldPost w { cat := 4, pic := nPic l, digits := (nDigs l).length, scale := (nCut l).2.1.length, signed := nSigned l, bytes := nBytes l } e w' := by
    rintro signed part minus h1 h2 h3 e w' ⟨A, he, hA, hB, hb⟩
    have hbl : (nBytes l).length = W.size + P.size := by
      unfold nBytes; split
      · rw [overpunch_len _ _ hpos, hdl]
      · exact hdl
    refine ⟨A, ?_, hA, hB.cast ?_, hb⟩
    · show _ = Ending.returned (.tuple #[.agg (fieldV 4 (nPic l) (nDigs l).length (nCut l).2.1.length (nSigned l) (nBytes l).length (.slice (some ⟨A, 0, none⟩) (nBytes l).length (nBytes l).length)), .int .i64 0])
      rw [hbl, hdl, hPs, he]
      have : nPic l = numPic W P signed part := by unfold nPic numPic; rw [h1, h2, hWs, hPs]
      rw [this, h1]
    · show numBytes W P signed minus = nBytes l
      unfold numBytes nBytes
      rw [h1, hdg]
      by_cases hs1 : signed = true
      · rw [if_pos hs1, if_pos hs1, h3 hs1]
      · rw [if_neg hs1, if_neg hs1]
  have hP0 : (nCut l).2.2 = false → P.toList.isEmpty = true := fun h => hemp true (by
    have := cut_false (nRest l) [46] h
    show (Lib.cut (nRest l) [46]).2.1.isEmpty = true
    rw [this]; rfl)
  have hP1 : (nCut l).2.2 = true → P.toList.isEmpty = false := fun c5 => hemp false (by
        have : (nCut l).2.1 ≠ [] := fun e => c3 ⟨c5, e⟩
        simpa using this)
  by_cases hsg : nSigned l = true
  · have hsg' : decide (r.size < s.size) = true := by rw [nSigned, hrs, hl] at hsg; exact hsg
    have h0 : 0 < s.size := by have := of_decide_eq_true hsg'; omega
    have hhd : l.head? = some (s[0]'h0) := by
      rw [← hsl]
      have := Lib.data_getElem? s 0 h0
      rw [← this]; exact List.head?_eq_getElem?
    have hmm : ∀ b, (((s[0]'h0).toNat : Int) == 45) = b → nMinus l = b := fun b hb => by
      rw [nMinus, hhd, ← hb]
      have e : ((s[0]'h0) = (45 : UInt8)) ↔ ((s[0]'h0).toNat : Int) = 45 := by
        constructor
        · intro e; rw [e]; rfl
        · intro e; exact UInt8.toNat_inj.1 (by have : (45 : UInt8).toNat = 45 := rfl; omega)
      rw [Bool.eq_iff_iff]; simp [e]
    by_cases hpt : (nCut l).2.2 = true
    · rw [hpt] at hc
      cases hm : (((s[0]'h0).toNat : Int) == 45)
      · exact (number_1p s r r0 W P w hE hs hr1 hr2 hle (by omega) hsg' hc (hP1 hpt) c2' (by omega) (by omega) h0 hm).mono (hfin _ _ _ hsg hpt (fun _ => hmm _ hm))
      · exact (number_1m s r r0 W P w hE hs hr1 hr2 hle (by omega) hsg' hc (hP1 hpt) c2' (by omega) (by omega) h0 hm).mono (hfin _ _ _ hsg hpt (fun _ => hmm _ hm))
    · have hpt : (nCut l).2.2 = false := by simpa using hpt
      rw [hpt] at hc
      cases hm : (((s[0]'h0).toNat : Int) == 45)
      · exact (number_0p s r r0 W P w hE hs hr1 hr2 hle (by omega) hsg' hc (hP0 hpt) c2' (by omega) (by omega) h0 hm).mono (hfin _ _ _ hsg hpt (fun _ => hmm _ hm))
      · exact (number_0m s r r0 W P w hE hs hr1 hr2 hle (by omega) hsg' hc (hP0 hpt) c2' (by omega) (by omega) h0 hm).mono (hfin _ _ _ hsg hpt (fun _ => hmm _ hm))
  · have hsg : nSigned l = false := by simpa using hsg
    have hsg' : decide (r.size < s.size) = false := by rw [nSigned, hrs, hl] at hsg; exact hsg
    by_cases hpt : (nCut l).2.2 = true
    · rw [hpt] at hc
      exact (number_1n s r r0 W P w hE hs hr1 hr2 hle (by omega) hsg' hc (hP1 hpt) c2' (by omega) (by omega)).mono (hfin _ _ _ hsg hpt (fun h => by cases h))
    · have hpt : (nCut l).2.2 = false := by simpa using hpt
      rw [hpt] at hc
      exact (number_0n s r r0 W P w hE hs hr1 hr2 hle (by omega) hsg' hc (hP0 hpt) c2' (by omega) (by omega)).mono (hfin _ _ _ hsg hpt (fun h => by cases h))
end Go.Proofs.YtphofgokcfdobaaDoor
