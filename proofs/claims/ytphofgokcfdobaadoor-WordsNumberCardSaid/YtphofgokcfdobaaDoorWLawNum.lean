/- The law WordsNumber returns true for every text. -/
import Derived.Test.YtphofgokcfdobaaDoorWLives
import Derived.Test.YtphofgokcfdobaaDoorWNumP
import Derived.Deep.DeepCutAuto
namespace Go.Proofs.YtphofgokcfdobaaDoor
open Go.RowKit Go.Shelf
set_option maxRecDepth 100000
namespace WP
theorem numR_body (l : List UInt8) (h : l.length - (nRest l).length ≤ 1) : errOf (numR l) = bodyErr (nRest l) := by
  unfold numR bodyErr
  have e1 : ¬ 1 < l.length - (nRest l).length := by omega
  have e2 : (nCut l) = Lib.cut (nRest l) [46] := rfl
  have e3 : nDigs l = (Lib.cut (nRest l) [46]).1 ++ (Lib.cut (nRest l) [46]).2.1 := rfl
  rw [e2, e3]
  simp only [e1, false_or]
  split
  · rfl
  · split <;> rfl
theorem want_sgn (b : UInt8) (l : List UInt8) (h : isSgn b = true) : wantR (b :: l) = 4 := by
  have hb : isDig b = false := by
    cases hq : isDig b with
    | false => rfl
    | true => rw [(isDig_sgn b hq).1] at h; cases h
  have h46 : (b == 46) = false := by
    cases hq : (b == 46) with
    | false => rfl
    | true => rw [beq_iff_eq] at hq; subst hq; exact absurd h (by decide)
  unfold wantR
  rw [if_pos (.inl (by simp [digDot, hb, h46]))]
theorem num_err : ∀ (l : List UInt8), errOf (numR l) = wantR (behindSgn l)
  | [] => by rw [numR_body [] (by rw [nRest_nil]; decide), nRest_nil, body_want]; rfl
  | b :: l => by
    by_cases hb : isSgn b = true
    · have e : behindSgn (b :: l) = l := by simp [behindSgn, hb]
      rw [e]
      by_cases h45 : b = 45
      · subst h45
        rw [numR_body _ (by rw [nRest_minus]; simp), nRest_minus, body_want]
      · have h43 : b = 43 := by
          simp [isSgn] at hb
          rcases hb with h | h
          · exact h
          · exact absurd h h45
        subst h43
        match l with
        | [] => rw [numR_body _ (by rw [nRest_plus, trim0]; simp), nRest_plus, trim0, body_want]
        | c :: t =>
          by_cases hc : c = 45
          · subst hc
            rw [want_sgn 45 t (by decide)]
            have : nRest (43 :: 45 :: t) = t := by rw [nRest_plus, trim1, if_pos rfl]
            unfold numR
            rw [this, if_pos (.inl (by simp; omega))]
            rfl
          · have : nRest (43 :: c :: t) = c :: t := by rw [nRest_plus, trim1, if_neg hc]
            rw [numR_body _ (by rw [this]; simp), this, body_want]
    · have hb : isSgn b = false := by simpa using hb
      have e : behindSgn (b :: l) = b :: l := by simp [behindSgn, hb]
      rw [e, numR_body _ (by rw [nRest_plain b l hb]; simp), nRest_plain b l hb, body_want]
/-- The field of an accepted number has a byte. -/
theorem numR_pos (l : List UInt8) (f : Fld) (h : numR l = .ok f) : 1 ≤ f.bytes.length := by
  unfold numR at h
  split at h
  · cases h
  · rename_i hno
    split at h
    · cases h
    · injection h with h
      have hd : isDigs (nDigs l) = true := by
        cases hq : isDigs (nDigs l) with
        | true => rfl
        | false => exact absurd (.inr (.inl hq)) hno
      have hpos : 1 ≤ (nDigs l).length := by
        rcases hq : nDigs l with _ | ⟨x, t⟩
        · rw [hq] at hd; exact absurd hd (by decide)
        · simp
      rw [← h]
      show 1 ≤ (nBytes l).length
      unfold nBytes; split
      · rw [overpunch_len _ _ hpos]; exact hpos
      · exact hpos
theorem nDot_le (l : List UInt8) : nDot l ≤ l.length := List.length_filter_le _ _
theorem step_dig (l : List UInt8) (c : UInt8) (h : 48 ≤ (c.toNat : Int) ∧ (c.toNat : Int) ≤ 57) : nDg (l ++ [c]) = nDg l + 1 ∧ nDot (l ++ [c]) = nDot l ∧ digDot (l ++ [c]) = digDot l := by
  have hd : isDig c = true := decide_eq_true h
  have h4 := dig_not46 hd
  rw [nDg_app, nDot_app, digDot_app]
  simp [nDg, nDot, digDot, hd, h4]
theorem step_dot (l : List UInt8) (c : UInt8) (h : ((c.toNat : Int) == 46) = true) : nDg (l ++ [c]) = nDg l ∧ nDot (l ++ [c]) = nDot l + 1 ∧ digDot (l ++ [c]) = digDot l := by
  have hc : c = 46 := UInt8.toNat_inj.1 (by have := eq_of_beq h; have e : (46 : UInt8).toNat = 46 := rfl; omega)
  subst hc
  rw [nDg_app, nDot_app, digDot_app]
  have k1 : digDot [46] = true := by decide
  have k2 : nDg [46] = 0 := by decide
  have k3 : nDot [46] = 1 := by decide
  simp [k1, k2, k3]
theorem step_bad (l : List UInt8) (c : UInt8) (h : ¬ (48 ≤ (c.toNat : Int) ∧ (c.toNat : Int) ≤ 57)) (h2 : ((c.toNat : Int) == 46) = false) : nDg (l ++ [c]) = nDg l ∧ nDot (l ++ [c]) = nDot l ∧ digDot (l ++ [c]) = false := by
  have hd : isDig c = false := decide_eq_false h
  have h4 : (c == 46) = false := by
    cases hq : (c == 46) with
    | false => rfl
    | true => rw [beq_iff_eq] at hq; subst hq; exact absurd h2 (by decide)
  rw [nDg_app, nDot_app, digDot_app]
  simp [nDg, nDot, digDot, hd, h4]
def wantP (dd : Bool) (a d : Nat) (la : UInt8) : Int := if dd = false ∨ a = 0 ∨ 1 < d ∨ la = 46 then 4 else if 18 < a then 5 else 0
theorem want_parts (r : List UInt8) : wantR r = wantP (digDot r) (nDg r) (nDot r) (lastB r) := rfl
theorem wantP_dd (a d : Nat) (la : UInt8) : wantP false a d la = 4 := by simp [wantP]
theorem wantP_a (d : Nat) (la : UInt8) : wantP true 0 d la = 4 := by simp [wantP]
theorem wantP_d (a d : Nat) (la : UInt8) (h : 1 < d) : wantP true a d la = 4 := by simp [wantP, h]
theorem wantP_la (a d : Nat) : wantP true a d 46 = 4 := by simp [wantP]
theorem wantP_w (a d : Nat) (la : UInt8) (h1 : ¬ a = 0) (h2 : ¬ 1 < d) (h3 : ¬ la = 46) (h4 : 18 < a) : wantP true a d la = 5 := by simp [wantP, h1, h2, h3, h4]
theorem wantP_ok (a d : Nat) (la : UInt8) (h1 : ¬ a = 0) (h2 : ¬ 1 < d) (h3 : ¬ la = 46) (h4 : ¬ 18 < a) : wantP true a d la = 0 := by simp [wantP, h1, h2, h3, h4]
end WP

/-- The place behind a sign. -/
def sgnAt (l : List UInt8) : Nat := match l with | [] => 0 | b :: _ => if WP.isSgn b then 1 else 0
theorem behind_drop (l : List UInt8) : WP.behindSgn l = l.drop (sgnAt l) := by
  cases l with
  | nil => rfl
  | cons b t =>
    show (if WP.isSgn b then t else b :: t) = (b :: t).drop (if WP.isSgn b then 1 else 0)
    split <;> rfl

def errOf' (s : ByteArray) : Int := WP.errOf (numR s.data.toList)
theorem num_is_err (l : List UInt8) (c : Int) (hc : c ≠ 0) (h : WP.errOf (numR l) = c) : numR l = .error c := by
  rcases hq : numR l with e | f
  · rw [hq] at h; exact congrArg _ h
  · rw [hq] at h; exact absurd h.symm hc
theorem num_is_ok (l : List UInt8) (h : WP.errOf (numR l) = 0) : ∃ f, numR l = .ok f ∧ 1 ≤ f.bytes.length := by
  have hk := numR_ok l
  rcases hq : numR l with e | f
  · rw [hq] at h hk; exact absurd h hk
  · exact ⟨f, rfl, WP.numR_pos l f hq⟩
/-- What has been looked at before place k. -/
def seen (s : ByteArray) (k : Nat) : List UInt8 := (s.data.toList.drop (sgnAt s.data.toList)).take (k - sgnAt s.data.toList)
theorem seen_0 (s : ByteArray) (i : Nat) (h : sgnAt s.data.toList = i) : seen s i = [] := by unfold seen; rw [h]; simp
theorem seen_snoc (s : ByteArray) (k : Nat) (h : k < s.size) (hs : sgnAt s.data.toList ≤ k) : seen s (k + 1) = seen s k ++ [s[k]] := by
  unfold seen
  have hk : k < s.data.toList.length := by rw [← Lib.size_eq]; exact h
  have e : k + 1 - sgnAt s.data.toList = (k - sgnAt s.data.toList) + 1 := by omega
  rw [e, List.take_succ_eq_append_getElem (by simp; omega)]
  congr 2
  rw [List.getElem_drop]
  show s.data.toList[sgnAt s.data.toList + (k - sgnAt s.data.toList)]'_ = s.data.toList[k]'hk
  congr 1; omega
theorem seen_len (s : ByteArray) (k : Nat) : (seen s k).length ≤ s.size := by
  unfold seen
  have := Lib.size_eq s
  rw [List.length_take, List.length_drop]; omega
theorem seen_end (s : ByteArray) : seen s s.size = WP.behindSgn s.data.toList := by
  unfold seen
  rw [behind_drop, List.take_of_length_le]
  rw [List.length_drop, Lib.size_eq]; exact Nat.le_refl _

theorem sgn_cases (s : ByteArray) : (∃ i0 : Nat, i0 = 0 ∧ s.toList.isEmpty = true ∧ i0 ≤ s.size ∧ sgnAt s.data.toList = i0) ∨
      (∃ (hp : 0 < s.size), s.toList.isEmpty = false ∧ ((((s[0]'hp).toNat : Int) == 43) = true ∧ 1 ≤ s.size ∧ sgnAt s.data.toList = 1)) ∨
      (∃ (hp : 0 < s.size), s.toList.isEmpty = false ∧ ((((s[0]'hp).toNat : Int) == 43) = false ∧ (((s[0]'hp).toNat : Int) == 45) = true ∧ 1 ≤ s.size ∧ sgnAt s.data.toList = 1)) ∨
      (∃ (hp : 0 < s.size), s.toList.isEmpty = false ∧ ((((s[0]'hp).toNat : Int) == 43) = false ∧ (((s[0]'hp).toNat : Int) == 45) = false ∧ 0 ≤ s.size ∧ sgnAt s.data.toList = 0)) := by
  rw [Lib.toList_data]
  by_cases h0 : s.size = 0
  · have e : s.data.toList = [] := List.eq_nil_of_length_eq_zero (by rw [← Lib.size_eq]; exact h0)
    exact .inl ⟨0, rfl, by rw [e]; rfl, by omega, by rw [e]; rfl⟩
  · have hp : 0 < s.size := by omega
    have hd := Lib.data_getElem? s 0 hp
    generalize hc : s[0] = c at hd
    obtain ⟨t, ht⟩ : ∃ t, s.data.toList = c :: t := by
      cases hq : s.data.toList with
      | nil => rw [hq] at hd; cases hd
      | cons x t => rw [hq] at hd; simp at hd; exact ⟨t, by rw [hd]⟩
    have he : s.data.toList.isEmpty = false := by rw [ht]; rfl
    have hsg : sgnAt s.data.toList = if WP.isSgn c then 1 else 0 := by rw [ht]; rfl
    have key : ∀ n : UInt8, (((c.toNat : Int) == (n.toNat : Int)) = true ↔ c = n) := fun n => by
      rw [beq_iff_eq]
      constructor
      · intro h; exact UInt8.toNat_inj.1 (by omega)
      · intro h; rw [h]
    have k43 := key 43
    have k45 := key 45
    by_cases h43 : c = 43
    · subst h43
      exact .inr (.inl ⟨hp, he, by rw [hc]; rfl, by omega, by rw [hsg]; rfl⟩)
    by_cases h45 : c = 45
    · subst h45
      exact .inr (.inr (.inl ⟨hp, he, by rw [hc]; rfl, by rw [hc]; rfl, by omega, by rw [hsg]; rfl⟩))
    · refine .inr (.inr (.inr ⟨hp, he, ?_, ?_, by omega, ?_⟩))
      · rw [hc]
        cases hq : ((c.toNat : Int) == 43) with
        | false => rfl
        | true => exact absurd (k43.1 hq) h43
      · rw [hc]
        cases hq : ((c.toNat : Int) == 45) with
        | false => rfl
        | true => exact absurd (k45.1 hq) h45
      · rw [hsg]; simp [WP.isSgn, h43, h45]

set_option maxHeartbeats 64000000 in
theorem wordsNumber_small (s : ByteArray) (w : World) (hE : Env w) (hs : (s.size : Int) ≤ 60) :
    Calls Tryd.prog 5 #[.string s] w fun e w' => e = .returned (.bool true) ∧ Below w.heap.size w w' := by
  have hnum := literal_any 2 s 0 0 false w hE (by omega)
  have HE := Lib.hid hE
  clear hE
  rw [litR, if_pos rfl] at hnum
  have herr := WP.num_err s.data.toList
  have HN := Lib.hid hnum
  clear hnum
  have herr' := Lib.hid herr
  clear herr
  have hl : s.data.toList.length = s.size := (Lib.size_eq s).symm
  have HL := Lib.hid hl
  have hcase : (∃ i0 : Nat, i0 = 0 ∧ s.toList.isEmpty = true ∧ i0 ≤ s.size ∧ sgnAt s.data.toList = i0) ∨
      (∃ (hp : 0 < s.size), s.toList.isEmpty = false ∧ ((((s[0]'hp).toNat : Int) == 43) = true ∧ 1 ≤ s.size ∧ sgnAt s.data.toList = 1)) ∨
      (∃ (hp : 0 < s.size), s.toList.isEmpty = false ∧ ((((s[0]'hp).toNat : Int) == 43) = false ∧ (((s[0]'hp).toNat : Int) == 45) = true ∧ 1 ≤ s.size ∧ sgnAt s.data.toList = 1)) ∨
      (∃ (hp : 0 < s.size), s.toList.isEmpty = false ∧ ((((s[0]'hp).toNat : Int) == 43) = false ∧ (((s[0]'hp).toNat : Int) == 45) = false ∧ 0 ≤ s.size ∧ sgnAt s.data.toList = 0)) := by
    exact sgn_cases s
  have hrest : ∀ i0 : Nat, sgnAt s.data.toList = i0 → True := fun _ _ => trivial
  rcases hcase with ⟨i0, rfl, he, hi0, hsg⟩ | ⟨hp, he, h43, hi0, hsg⟩ | ⟨hp, he, h43, h45, hi0, hsg⟩ | ⟨hp, he, h43, h45, hi0, hsg⟩
  all_goals
    have HSG := Lib.hid hsg
    clear hsg hl hrest
    go_enter Tryd.func5, Tryd.ntmps5
    go_wp2_with fail
    go_loop [4, 5, 6, 7, 8] (fun s4 s5 s6 s7 s8 => ∃ k : Nat, k ≤ s.size ∧ s8 = .int .i64 k ∧ s4 = .int .i64 (WP.nDg (seen s k) : Nat) ∧ s5 = .int .i64 (WP.nDot (seen s k) : Nat) ∧ s6 = .int .u8 ((WP.lastB (seen s k)).toNat : Nat) ∧ s7 = .bool (WP.digDot (seen s k)) ∧ Hid (sgnAt s.data.toList ≤ k))
      (fun _ _ _ _ s8 => s.size - (intOf s8).toNat)
    case atStart => exact ⟨_, by omega, rfl, by rw [seen_0 _ _ HSG.out]; rfl, by rw [seen_0 _ _ HSG.out]; rfl, by rw [seen_0 _ _ HSG.out]; rfl, by rw [seen_0 _ _ HSG.out]; rfl, by rw [HSG.out]; exact Nat.le_refl _⟩
    case round =>
      obtain ⟨k, hk, rfl, rfl, rfl, rfl, rfl, hge⟩ := hrel
      have hn1 := WP.nDg_le (seen s k)
      have hn2 := WP.nDot_le (seen s k)
      have hsl := seen_len s k
      by_cases hlt : k < s.size
      · have HS := Lib.hid (seen_snoc s k hlt hge.out)
        obtain ⟨a, ha⟩ : ∃ a, WP.nDg (seen s k) = a := ⟨_, rfl⟩
        obtain ⟨d, hd⟩ : ∃ d, WP.nDot (seen s k) = d := ⟨_, rfl⟩
        obtain ⟨la, hla⟩ : ∃ la, WP.lastB (seen s k) = la := ⟨_, rfl⟩
        obtain ⟨dd, hdd⟩ : ∃ dd, WP.digDot (seen s k) = dd := ⟨_, rfl⟩
        rw [ha, hd, hla, hdd]
        rw [ha] at hn1; rw [hd] at hn2
        have HA := Lib.hid ha
        have HD := Lib.hid hd
        have HDD := Lib.hid hdd
        have ha60 : (a : Int) ≤ 60 := by omega
        have hd60 : (d : Int) ≤ 60 := by omega
        clear ha hd hla hdd hn1 hn2 hsl
        by_cases hc1 : 48 ≤ ((s[k]).toNat : Int) ∧ ((s[k]).toNat : Int) ≤ 57
        · have hst := Lib.hid (WP.step_dig (seen s k) s[k] hc1)
          obtain ⟨hc1, hc2⟩ := hc1
          go_wp2_with fail
          go_round
          case rel => exact ⟨k + 1, by omega, by go_num, by rw [HS.out, hst.out.1, HA.out]; go_num, by rw [HS.out, hst.out.2.1, HD.out], by rw [HS.out, WP.lastB_snoc], by rw [HS.out, hst.out.2.2, HDD.out], Nat.le_trans hge.out (Nat.le_succ _)⟩
          case measure => simp [intOf]; omega
        · by_cases hc2 : (((s[k]).toNat : Int) == 46) = true
          · have hst := Lib.hid (WP.step_dot (seen s k) s[k] hc2)
            have hc3 : ((s[k]).toNat : Int) < 48 := by have := eq_of_beq hc2; omega
            clear hc1
            go_wp2_with fail
            go_round
            case rel => exact ⟨k + 1, by omega, by go_num, by rw [HS.out, hst.out.1, HA.out], by rw [HS.out, hst.out.2.1, HD.out]; go_num, by rw [HS.out, WP.lastB_snoc], by rw [HS.out, hst.out.2.2, HDD.out], Nat.le_trans hge.out (Nat.le_succ _)⟩
            case measure => simp [intOf]; omega
          · have hc2 : (((s[k]).toNat : Int) == 46) = false := by simpa using hc2
            have hst := Lib.hid (WP.step_bad (seen s k) s[k] hc1 hc2)
            have hc4 : ((s[k]).toNat : Int) < 48 ∨ 57 < ((s[k]).toNat : Int) := by omega
            clear hc1
            rcases hc4 with hc3 | hc3
            all_goals
              go_wp2_with fail
              go_round
              case rel => exact ⟨k + 1, by omega, by go_num, by rw [HS.out, hst.out.1, HA.out], by rw [HS.out, hst.out.2.1, HD.out], by rw [HS.out, WP.lastB_snoc], by rw [HS.out, hst.out.2.2], Nat.le_trans hge.out (Nat.le_succ _)⟩
              case measure => simp [intOf]; omega
      · obtain rfl : k = s.size := by omega
        have hr := seen_end s
        rw [hr] at hn1 hn2 hsl ⊢
        obtain ⟨r, hrr⟩ : ∃ r, WP.behindSgn s.data.toList = r := ⟨_, rfl⟩
        rw [hrr] at hn1 hn2 hsl ⊢
        have herr' : Hid (errOf' s = WP.wantR r) := by have := herr'.out; rw [hrr] at this; exact this
        have hwr := Lib.hid (WP.want_parts r)
        obtain ⟨a, ha⟩ : ∃ a, WP.nDg r = a := ⟨_, rfl⟩
        obtain ⟨d, hd⟩ : ∃ d, WP.nDot r = d := ⟨_, rfl⟩
        obtain ⟨la, hla⟩ : ∃ la, WP.lastB r = la := ⟨_, rfl⟩
        obtain ⟨dd, hdd⟩ : ∃ dd, WP.digDot r = dd := ⟨_, rfl⟩
        rw [ha] at hn1; rw [hd] at hn2
        have hwr : Hid (WP.wantR r = WP.wantP dd a d la) := by have := hwr.out; rw [ha, hd, hla, hdd] at this; exact this
        rw [ha, hd, hla, hdd]
        have ha60 : (a : Int) ≤ 60 := by omega
        have hd60 : (d : Int) ≤ 60 := by omega
        clear ha hd hla hdd hn1 hn2 hsl hr hrr hlt hk
        cases dd
        · have HW := Lib.hid (WP.wantP_dd a d la)
          have hnr : numR s.data.toList = .error 4 := num_is_err _ _ (by decide) (herr'.out.trans (hwr.out.trans HW.out))
          have HN2 : Hid (Calls Tryd.prog 16 #[tokV 2 s 0 0 false] w (ErrPost w 4)) := by have := HN.out; rw [hnr] at this; exact this
          clear hnr
          go_wp2_with fail
          refine (HN2.out).mono ?_
          rintro e w1 ⟨rfl, hb⟩
          have HB := Lib.hid hb
          clear hb
          have HWr := Lib.hid (heap_alloc_new w1 (.cells fieldZ 41 (0, 0)))
          go_wp2_with (refine wpList_store_row rfl _ _ 41 rfl w1.heap.size rfl _ rfl _ _ HWr.out rfl (by kernel_rfl) rfl ?_)
          intro w5 hg5 hgr5 hsz5
          have hcr := fun j => cell_of_row w5 _ j _ _ _ hg5
          have HB5 := Lib.hid (below_store HB.out HB.out.size hgr5)
          clear hg5 hgr5 hsz5
          go_wp2_with fail
          refine (lives_any _ (HE.out.below HB5.out)).mono ?_
          rintro e w6 ⟨rfl, hb6⟩
          go_wp2_with fail
          go_ret
          exact ⟨rfl, HB5.out.trans (hb6.mono HB5.out.size)⟩
        · by_cases c1 : a = 0
          · subst c1
            have HW := Lib.hid (WP.wantP_a d la)
            have hnr : numR s.data.toList = .error 4 := num_is_err _ _ (by decide) (herr'.out.trans (hwr.out.trans HW.out))
            have HN2 : Hid (Calls Tryd.prog 16 #[tokV 2 s 0 0 false] w (ErrPost w 4)) := by have := HN.out; rw [hnr] at this; exact this
            clear hnr
            go_wp2_with fail
            refine (HN2.out).mono ?_
            rintro e w1 ⟨rfl, hb⟩
            have HB := Lib.hid hb
            clear hb
            have HWr := Lib.hid (heap_alloc_new w1 (.cells fieldZ 41 (0, 0)))
            go_wp2_with (refine wpList_store_row rfl _ _ 41 rfl w1.heap.size rfl _ rfl _ _ HWr.out rfl (by kernel_rfl) rfl ?_)
            intro w5 hg5 hgr5 hsz5
            have hcr := fun j => cell_of_row w5 _ j _ _ _ hg5
            have HB5 := Lib.hid (below_store HB.out HB.out.size hgr5)
            clear hg5 hgr5 hsz5
            go_wp2_with fail
            refine (lives_any _ (HE.out.below HB5.out)).mono ?_
            rintro e w6 ⟨rfl, hb6⟩
            go_wp2_with fail
            go_ret
            exact ⟨rfl, HB5.out.trans (hb6.mono HB5.out.size)⟩
          · have c1' : ((a : Int) == 0) = false := by simpa using c1
            by_cases c2 : 1 < d
            · have HW := Lib.hid (WP.wantP_d a d la c2)
              have c2' : (1 : Int) < (d : Int) := by omega
              clear c1 c2
              have hnr : numR s.data.toList = .error 4 := num_is_err _ _ (by decide) (herr'.out.trans (hwr.out.trans HW.out))
              have HN2 : Hid (Calls Tryd.prog 16 #[tokV 2 s 0 0 false] w (ErrPost w 4)) := by have := HN.out; rw [hnr] at this; exact this
              clear hnr
              go_wp2_with fail
              refine (HN2.out).mono ?_
              rintro e w1 ⟨rfl, hb⟩
              have HB := Lib.hid hb
              clear hb
              have HWr := Lib.hid (heap_alloc_new w1 (.cells fieldZ 41 (0, 0)))
              go_wp2_with (refine wpList_store_row rfl _ _ 41 rfl w1.heap.size rfl _ rfl _ _ HWr.out rfl (by kernel_rfl) rfl ?_)
              intro w5 hg5 hgr5 hsz5
              have hcr := fun j => cell_of_row w5 _ j _ _ _ hg5
              have HB5 := Lib.hid (below_store HB.out HB.out.size hgr5)
              clear hg5 hgr5 hsz5
              go_wp2_with fail
              refine (lives_any _ (HE.out.below HB5.out)).mono ?_
              rintro e w6 ⟨rfl, hb6⟩
              go_wp2_with fail
              go_ret
              exact ⟨rfl, HB5.out.trans (hb6.mono HB5.out.size)⟩
            · have c2' : (d : Int) ≤ 1 := by omega
              by_cases c3 : la = 46
              · subst c3
                have HW := Lib.hid (WP.wantP_la a d)
                clear c1 c2
                have hnr : numR s.data.toList = .error 4 := num_is_err _ _ (by decide) (herr'.out.trans (hwr.out.trans HW.out))
                have HN2 : Hid (Calls Tryd.prog 16 #[tokV 2 s 0 0 false] w (ErrPost w 4)) := by have := HN.out; rw [hnr] at this; exact this
                clear hnr
                go_wp2_with fail
                refine (HN2.out).mono ?_
                rintro e w1 ⟨rfl, hb⟩
                have HB := Lib.hid hb
                clear hb
                have HWr := Lib.hid (heap_alloc_new w1 (.cells fieldZ 41 (0, 0)))
                go_wp2_with (refine wpList_store_row rfl _ _ 41 rfl w1.heap.size rfl _ rfl _ _ HWr.out rfl (by kernel_rfl) rfl ?_)
                intro w5 hg5 hgr5 hsz5
                have hcr := fun j => cell_of_row w5 _ j _ _ _ hg5
                have HB5 := Lib.hid (below_store HB.out HB.out.size hgr5)
                clear hg5 hgr5 hsz5
                go_wp2_with fail
                refine (lives_any _ (HE.out.below HB5.out)).mono ?_
                rintro e w6 ⟨rfl, hb6⟩
                go_wp2_with fail
                go_ret
                exact ⟨rfl, HB5.out.trans (hb6.mono HB5.out.size)⟩
              · have c3' : ((la.toNat : Int) == 46) = false := by
                  cases hq : ((la.toNat : Int) == 46) with
                  | false => rfl
                  | true => exact absurd (UInt8.toNat_inj.1 (by have := eq_of_beq hq; have e : (46 : UInt8).toNat = 46 := rfl; omega)) c3
                by_cases c4 : 18 < a
                · have HW := Lib.hid (WP.wantP_w a d la c1 c2 c3 c4)
                  have c4' : (18 : Int) < (a : Int) := by omega
                  clear c1 c2 c3 c4
                  have hnr : numR s.data.toList = .error 5 := num_is_err _ _ (by decide) (herr'.out.trans (hwr.out.trans HW.out))
                  have HN2 : Hid (Calls Tryd.prog 16 #[tokV 2 s 0 0 false] w (ErrPost w 5)) := by have := HN.out; rw [hnr] at this; exact this
                  clear hnr
                  go_wp2_with fail
                  refine (HN2.out).mono ?_
                  rintro e w1 ⟨rfl, hb⟩
                  have HB := Lib.hid hb
                  clear hb
                  have HWr := Lib.hid (heap_alloc_new w1 (.cells fieldZ 41 (0, 0)))
                  go_wp2_with (refine wpList_store_row rfl _ _ 41 rfl w1.heap.size rfl _ rfl _ _ HWr.out rfl (by kernel_rfl) rfl ?_)
                  intro w5 hg5 hgr5 hsz5
                  have hcr := fun j => cell_of_row w5 _ j _ _ _ hg5
                  have HB5 := Lib.hid (below_store HB.out HB.out.size hgr5)
                  clear hg5 hgr5 hsz5
                  go_wp2_with fail
                  refine (lives_any _ (HE.out.below HB5.out)).mono ?_
                  rintro e w6 ⟨rfl, hb6⟩
                  go_wp2_with fail
                  go_ret
                  exact ⟨rfl, HB5.out.trans (hb6.mono HB5.out.size)⟩
                · have HW := Lib.hid (WP.wantP_ok a d la c1 c2 c3 c4)
                  have c4' : (a : Int) ≤ 18 := by omega
                  clear c1 c2 c3 c4
                  obtain ⟨f, hnr, hfp⟩ := num_is_ok _ (herr'.out.trans (hwr.out.trans HW.out))
                  have HN2 : Hid (Calls Tryd.prog 16 #[tokV 2 s 0 0 false] w (FldPost w f)) := by have := HN.out; rw [hnr] at this; exact this
                  have hfp0 : (0 : Int) < (f.bytes.length : Int) := by omega
                  have hfp1 : 0 < f.bytes.length := by omega
                  clear hnr hfp
                  go_wp2_with fail
                  refine (HN2.out).mono ?_
                  rintro e w1 ⟨A, rfl, hA, hBy, hb⟩
                  clear hBy
                  have HB := Lib.hid hb
                  clear hb
                  have HWr := Lib.hid (heap_alloc_new w1 (.cells fieldZ 41 (0, 0)))
                  go_wp2_with (refine wpList_store_row rfl _ _ 41 rfl w1.heap.size rfl _ rfl _ _ HWr.out rfl (by kernel_rfl) rfl ?_)
                  intro w5 hg5 hgr5 hsz5
                  have hcr := fun j => cell_of_row w5 _ j _ _ _ hg5
                  have HB5 := Lib.hid (below_store HB.out HB.out.size hgr5)
                  clear hg5 hgr5 hsz5
                  go_wp2_with fail
                  refine (lives_any _ (HE.out.below HB5.out)).mono ?_
                  rintro e w6 ⟨rfl, hb6⟩
                  go_wp2_with fail
                  go_ret
                  exact ⟨rfl, HB5.out.trans (hb6.mono HB5.out.size)⟩

set_option maxHeartbeats 1000000 in
theorem wordsNumber_big (s : ByteArray) (w : World) (hE : Env w) (hs : 60 < (s.size : Int)) :
    Calls Tryd.prog 5 #[.string s] w fun e w' => e = .returned (.bool true) ∧ Below w.heap.size w w' := by
  have HE := Lib.hid hE
  clear hE
  go_enter Tryd.func5, Tryd.ntmps5
  go_wp2_with fail
  refine (lives_any _ HE.out).mono ?_
  rintro e w1 ⟨rfl, hb⟩
  go_wp2_with fail
  go_ret
  exact ⟨rfl, hb⟩
end Go.Proofs.YtphofgokcfdobaaDoor
