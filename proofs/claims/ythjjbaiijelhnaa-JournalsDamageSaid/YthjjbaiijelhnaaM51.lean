import Derived.Test.YthjjbaiijelhnaaM00
import Derived.Test.YthjjbaiijelhnaaM16
import Derived.Test.YthjjbaiijelhnaaM31
set_option linter.unusedVariables false
set_option linter.unusedSimpArgs false
/- The check of a record: one byte that is changed is found. Plain lists. -/
namespace Go.Proofs.Ythjjbaiijelhnaa
namespace J
theorem xor_cancel {a b x : Nat} (h : a ^^^ x = b ^^^ x) : a = b := by
  have := congrArg (· ^^^ x) h
  simpa [Nat.xor_assoc] using this
theorem xor_cancel_l {a x y : Nat} (h : a ^^^ x = a ^^^ y) : x = y := by
  rw [Nat.xor_comm a x, Nat.xor_comm a y] at h
  exact xor_cancel h
theorem mul_inj {u v : Nat} (hu : u < 4294967296) (hv : v < 4294967296) (h : u * 16777619 % 4294967296 = v * 16777619 % 4294967296) : u = v := by
  have key : ∀ x : Nat, x < 4294967296 → x * 16777619 % 4294967296 * 899433627 % 4294967296 = x := fun x hx => by
    have e : x * 16777619 * 899433627 = x + 4294967296 * (x * 3513497) := by omega
    rw [Nat.mod_mul_mod, e, Nat.add_mul_mod_self_left, Nat.mod_eq_of_lt hx]
  exact (key u hu).symm.trans ((congrArg (fun z => z * 899433627 % 4294967296) h).trans (key v hv))
theorem xor_lt {a b : Nat} (ha : a < 4294967296) (hb : b < 4294967296) : a ^^^ b < 4294967296 := Nat.xor_lt_two_pow (n := 32) ha hb
theorem chkStep_inj {s s' : Nat} {x : UInt8} (h : s < 4294967296) (h' : s' < 4294967296) (e : chkStep s x = chkStep s' x) : s = s' := by
  have hx := x.toNat_lt
  exact xor_cancel (mul_inj (xor_lt h (by omega)) (xor_lt h' (by omega)) e)
theorem chkStep_ne {s : Nat} {x y : UInt8} (h : s < 4294967296) (e : chkStep s x = chkStep s y) : x = y := by
  have hx := x.toNat_lt
  have hy := y.toNat_lt
  exact UInt8.toNat_inj.1 (xor_cancel_l (mul_inj (xor_lt h (by omega)) (xor_lt h (by omega)) e))
theorem fold_inj : ∀ (l : B) (s s' : Nat), s < 4294967296 → s' < 4294967296 → l.foldl chkStep s = l.foldl chkStep s' → s = s'
  | [], _, _, _, _, e => e
  | x :: t, s, s', h, h', e => chkStep_inj h h' (fold_inj t _ _ (chkStep_lt s x) (chkStep_lt s' x) e)
theorem chk_change (a b : B) (x y : UInt8) (h : x ≠ y) : chk (a ++ x :: b) ≠ chk (a ++ y :: b) := by
  unfold chk
  rw [List.foldl_append, List.foldl_append]
  intro e
  have hs := chk_lt a
  unfold chk at hs
  exact h (chkStep_ne hs (fold_inj b _ _ (chkStep_lt _ x) (chkStep_lt _ y) e))
theorem set_split (l : B) (j : Nat) (y : UInt8) (h : j < l.length) : l = l.take j ++ l[j] :: l.drop (j + 1) ∧ l.set j y = l.take j ++ y :: l.drop (j + 1) :=
  ⟨by rw [List.getElem_cons_drop]; exact (List.take_append_drop j l).symm, List.set_eq_take_append_cons_drop.trans (if_pos h)⟩
theorem leV_inj {a b : B} (hl : a.length = b.length) (h : leV a = leV b) : a = b := by
  have h1 := leB_leV a
  rw [h, hl, leB_leV b] at h1
  exact h1.symm
/-- A changed byte in the changes or in the check of a record. -/
theorem take_changed (gen commits : Nat) (now : List (B × B)) (kind number : Nat) (L : List Chg) (r : B) (first : Bool) (hn : number < 4294967296) (hl : (encs L).length < 4294967296) (j : Nat) (y : UInt8) (h9 : 9 ≤ j) (hj : j < (record kind number L).length)
    (hy : (record kind number L)[j] ≠ y) : take gen commits now ((record kind number L).set j y ++ r) first = .bad 16 := by
  have hrl := record_len kind number L
  obtain ⟨_, _, h3, _⟩ := body_parts kind number L (leB (chk (body kind number L)) 4) hn hl
  have hbl := body_len kind number L
  have hlen : ((record kind number L).set j y ++ r).length = 13 + (encs L).length + r.length := by rw [List.length_append, List.length_set, hrl]
  have hcut : ∀ k, k ≤ 13 + (encs L).length → ((record kind number L).set j y ++ r).take k = ((record kind number L).set j y).take k := fun k hk => List.take_append_of_le_length (by rw [List.length_set]; omega)
  have hhead : ((record kind number L).set j y ++ r).take 9 = (record kind number L).take 9 := by
    rw [hcut 9 (by omega), List.take_set_of_le (by omega)]
  unfold take
  rw [hhead, show leV (((record kind number L).take 9).drop 5) = (encs L).length from h3, if_neg (by rw [hlen]; omega)]
  dsimp only
  rw [if_pos]
  have hd : (((record kind number L).set j y ++ r).drop (9 + (encs L).length)).take 4 = ((record kind number L).set j y).drop (9 + (encs L).length) := by
    rw [List.drop_append_of_le_length (by rw [List.length_set]; omega)]
    exact List.take_left' (by rw [List.length_drop, List.length_set]; omega)
  rw [hcut _ (by omega), hd]
  by_cases hb : j < 9 + (encs L).length
  · have e1 : ((record kind number L).set j y).take (9 + (encs L).length) = (body kind number L).set j y := by
      unfold record
      rw [List.set_append_left _ _ (by omega)]
      exact List.take_left' (by rw [List.length_set]; omega)
    have e2 : ((record kind number L).set j y).drop (9 + (encs L).length) = leB (chk (body kind number L)) 4 := by
      unfold record
      rw [List.set_append_left _ _ (by omega)]
      exact List.drop_left' (by rw [List.length_set]; omega)
    have hj' : (record kind number L)[j] = (body kind number L)[j]'(by omega) := by
      unfold record; exact List.getElem_append_left (by omega)
    rw [e1, e2, leV_leB, Nat.mod_eq_of_lt (chk_lt _)]
    obtain ⟨s1, s2⟩ := set_split (body kind number L) j y (by omega)
    intro e
    rw [s2] at e
    conv at e => rhs; rw [s1]
    exact chk_change _ _ _ _ (by rw [← hj']; exact fun h => hy h.symm) e
  · have e1 : ((record kind number L).set j y).take (9 + (encs L).length) = body kind number L := by
      rw [List.take_set_of_le (by omega)]
      unfold record
      exact List.take_left' hbl
    have e2 : ((record kind number L).set j y).drop (9 + (encs L).length) = (leB (chk (body kind number L)) 4).set (j - (9 + (encs L).length)) y := by
      unfold record
      rw [List.set_append_right _ _ (by omega), hbl]
      exact List.drop_left' hbl
    have hjo : (record kind number L)[j]? = (leB (chk (body kind number L)) 4)[j - (9 + (encs L).length)]? := by
      unfold record
      rw [List.getElem?_append_right (by omega), hbl]
    rw [List.getElem?_eq_getElem hj, List.getElem?_eq_getElem (by rw [leB_len]; omega)] at hjo
    have hj' : (record kind number L)[j] = (leB (chk (body kind number L)) 4)[j - (9 + (encs L).length)]'(by rw [leB_len]; omega) := by injection hjo
    rw [e1, e2]
    intro e
    have hq : leV (leB (chk (body kind number L)) 4) = chk (body kind number L) := by rw [leV_leB, Nat.mod_eq_of_lt (chk_lt _)]
    have := leV_inj (by rw [List.length_set]) (hq.trans e)
    apply hy
    rw [hj']
    have h5 : (leB (chk (body kind number L)) 4)[j - (9 + (encs L).length)]? = ((leB (chk (body kind number L)) 4).set (j - (9 + (encs L).length)) y)[j - (9 + (encs L).length)]? := congrArg (fun l => l[j - (9 + (encs L).length)]?) this
    rw [List.getElem?_set_self (by rw [leB_len]; omega), List.getElem?_eq_getElem (by rw [leB_len]; omega)] at h5
    injection h5
end J
end Go.Proofs.Ythjjbaiijelhnaa
/- Law 30, JournalsDamage: the plain half: an area is its records; where a byte lies; what a changed or a missing byte does. -/
namespace Go.Proofs.Ythjjbaiijelhnaa
namespace J
/-- The bytes of records, in order: the k-th one has its number in it, and is small. -/
def Recs (RS : List B) : Prop := ∀ (i : Nat) (r : B), RS[i]? = some r → ∃ num L, r = record 0 num L ∧ num < 4294967296 ∧ (encs L).length < 65536
/-- Where the i-th record begins. -/
def off (RS : List B) (i : Nat) : Nat := (RS.take i).flatten.length
theorem off_zero (RS : List B) : off RS 0 = 0 := rfl
theorem off_succ (RS : List B) (i : Nat) (h : i < RS.length) : off RS (i + 1) = off RS i + RS[i].length := by
  unfold off
  rw [List.take_succ_eq_append_getElem h, List.flatten_append, List.length_append]
  simp
theorem off_all (RS : List B) : off RS RS.length = RS.flatten.length := by unfold off; rw [List.take_length]
theorem flat_drop (RS : List B) (i : Nat) : RS.flatten.drop (off RS i) = (RS.drop i).flatten := by
  unfold off
  conv => lhs; rw [← List.take_append_drop i RS, List.flatten_append]
  simp
theorem flat_at (RS : List B) (i : Nat) (h : i < RS.length) : RS.flatten.drop (off RS i) = RS[i] ++ (RS.drop (i + 1)).flatten := by
  rw [flat_drop, List.drop_eq_getElem_cons h, List.flatten_cons]
theorem flat_take (RS : List B) (i : Nat) : RS.flatten.take (off RS i) = (RS.take i).flatten := by
  unfold off
  conv => lhs; rw [← List.take_append_drop i RS, List.flatten_append]
  simp
theorem rec_len {RS : List B} (h : Recs RS) {i : Nat} (hi : i < RS.length) : 13 ≤ RS[i].length ∧ RS[i].length ≤ 65548 := by
  obtain ⟨num, L, e, _, h2⟩ := h i _ (List.getElem?_eq_getElem hi)
  rw [e, record_len]; omega
/-- The record in which a byte lies. -/
theorem find_rec {RS : List B} : ∀ (n k : Nat), RS.length = n → k < RS.flatten.length → ∃ i, i < RS.length ∧ off RS i ≤ k ∧ k < off RS (i + 1) := by
  intro n k hn hk
  have key : ∀ j, j ≤ RS.length → k < off RS j → ∃ i, i < j ∧ off RS i ≤ k ∧ k < off RS (i + 1) := by
    intro j
    induction j with
    | zero => intro _ h; rw [off_zero] at h; omega
    | succ j ih =>
      intro hj h
      by_cases h2 : k < off RS j
      · obtain ⟨i, a, b, c⟩ := ih (by omega) h2
        exact ⟨i, by omega, b, c⟩
      · exact ⟨j, by omega, by omega, h⟩
  obtain ⟨i, a, b, c⟩ := key RS.length (Nat.le_refl _) (by rw [off_all]; exact hk)
  exact ⟨i, a, b, c⟩
/-- A record that is taken in goes as far as its bytes. -/
theorem take_rec {c : Nat} {now : List (B × B)} {r rest : B} {first : Bool} {n c' : Nat} {now' : List (B × B)} (hr : ∃ num L, r = record 0 num L ∧ num < 4294967296 ∧ (encs L).length < 65536) (h : take 0 c now (r ++ rest) first = .took n c' now') : n = r.length ∧ c' = c + 1 := by
  obtain ⟨num, L, rfl, hn, hl⟩ := hr
  have hb := body_parts 0 num L (leB (chk (body 0 num L)) 4 ++ rest) hn (by omega)
  have e : record 0 num L ++ rest = body 0 num L ++ (leB (chk (body 0 num L)) 4 ++ rest) := by unfold record; rw [List.append_assoc]
  rw [e] at h
  obtain ⟨_, _, ⟨L', _, h3, _⟩, h4, h5⟩ := take_took.1 h
  rw [if_neg (fun hh => absurd hh.2 (Nat.lt_irrefl _))] at h3
  rw [hb.2.2.1] at h4
  exact ⟨by rw [record_len]; omega, by rw [h5]; exact h3.2⟩
theorem off_le (RS : List B) {i j : Nat} (h : i ≤ j) : off RS i ≤ off RS j := by
  unfold off
  have : RS.take j = RS.take i ++ (RS.drop i).take (j - i) := by
    rw [← List.take_append_drop i (RS.take j), List.take_take, Nat.min_eq_left h, List.drop_take]
  rw [this, List.flatten_append, List.length_append]
  omega
/-- An area that is read whole is read record by record. -/
theorem reads_to {RS : List B} (hR : Recs RS) {p c q c' : Nat} {now now' : List (B × B)} (h : Reads 0 RS.flatten p c now q c' now') (hq : q = RS.flatten.length) : ∀ i, p = off RS i → i ≤ RS.length → ∀ j, i ≤ j → j ≤ RS.length → ∃ nowj, Reads 0 RS.flatten p c now (off RS j) (c + (j - i)) nowj := by
  induction h with
  | refl p c now =>
    intro i hp hi j hij hj
    by_cases he : i = RS.length
    · have : j = i := by omega
      subst this
      exact ⟨now, by rw [← hp, Nat.sub_self]; exact .refl _ _ _⟩
    · exfalso
      have hi2 : i < RS.length := by omega
      have h1 := off_succ RS i hi2
      have h2 := (rec_len hR hi2).1
      have h3 := off_le RS (show i + 1 ≤ RS.length by omega)
      rw [off_all] at h3
      omega
  | @step p c now n c1 now1 q c' now' ht hr ih =>
    intro i hp hi j hij hj
    by_cases he : j = i
    · subst he
      exact ⟨now, by rw [← hp, Nat.sub_self]; exact .refl _ _ _⟩
    · have hi2 : i < RS.length := by omega
      have ht2 := ht
      rw [hp, flat_at RS i hi2] at ht2
      obtain ⟨hn, hc⟩ := take_rec (by
        obtain ⟨num, L, a, b, d⟩ := hR i _ (List.getElem?_eq_getElem hi2)
        exact ⟨num, L, a, b, d⟩) ht2
      obtain ⟨nowj, hj2⟩ := ih hq (i + 1) (by rw [off_succ RS i hi2, ← hp, hn]) hi2 j (by omega) hj
      refine ⟨nowj, .step ht ?_⟩
      have : c + (j - i) = c1 + (j - (i + 1)) := by omega
      rw [this]; exact hj2
theorem cur_nil : current [] [] = (0, 0, 1) := rfl
/-- A byte of the changes or of the check is changed. -/
theorem dam_found {RS : List B} (hR : Recs RS) {c' : Nat} {now' : List (B × B)} (hr : Reads 0 RS.flatten 0 0 [] RS.flatten.length c' now') (hs : RS.flatten.length ≤ 8388608) (w k : Nat) (y : UInt8) (hw : w < RS.length) (h1 : off RS w + 9 ≤ k) (h2 : k < off RS (w + 1)) (hk : k < RS.flatten.length) (hy : RS.flatten[k] ≠ y) (a1 : B) (ha : a1.length ≤ 8388608) :
    recover ⟨[], [], RS.flatten.set k y, a1⟩ = .error 16 := by
  obtain ⟨nw, hw2⟩ := reads_to hR hr rfl 0 rfl (Nat.zero_le _) w (Nat.zero_le _) (Nat.le_of_lt hw)
  obtain ⟨num, L, e, hn, hl⟩ := hR w _ (List.getElem?_eq_getElem hw)
  have hos := off_succ RS w hw
  have hre : Reads 0 (RS.flatten.set k y) 0 0 [] (off RS w) (0 + (w - 0)) nw := hw2.ext (by rw [List.take_set_of_le (by omega)])
  refine recover_bad (m := ⟨[], [], RS.flatten.set k y, a1⟩) (by rw [List.length_set]; exact hs) ha hre ?_
  show take 0 (0 + (w - 0)) nw ((RS.flatten.set k y).drop (off RS w)) (off RS w == 0) = .bad 16
  have hd : (RS.flatten.set k y).drop (off RS w) = (record 0 num L).set (k - off RS w) y ++ (RS.drop (w + 1)).flatten := by
    rw [List.drop_set, if_neg (by omega), flat_at RS w hw, e, List.set_append_left _ _ (by rw [← e]; omega)]
  rw [hd]
  refine take_changed 0 _ nw 0 num L _ _ hn (by omega) (k - off RS w) y (by omega) (by rw [← e]; omega) ?_
  intro hh
  apply hy
  rw [← hh]
  have h3 : RS.flatten[k]? = (record 0 num L)[k - off RS w]? := by
    have := congrArg (fun l => l[k - off RS w]?) (flat_at RS w hw)
    simp only [List.getElem?_drop] at this
    rw [show off RS w + (k - off RS w) = k by omega] at this
    rw [this, e, List.getElem?_append_left (by rw [← e]; omega)]
  rw [List.getElem?_eq_getElem hk, List.getElem?_eq_getElem (by rw [← e]; omega)] at h3
  injection h3
/-- Bytes at the end are missing. -/
theorem dam_prefix {RS : List B} (hR : Recs RS) {c' : Nat} {now' : List (B × B)} (hr : Reads 0 RS.flatten 0 0 [] RS.flatten.length c' now') (hs : RS.flatten.length ≤ 8388608) (w k : Nat) (hw : w < RS.length) (h1 : off RS w ≤ k) (h2 : k < off RS (w + 1)) (a1 : B) (ha : a1.length ≤ 8388608) :
    ∃ nw, recover ⟨[], [], RS.flatten.take k, a1⟩ = .ok (recovered ⟨[], [], RS.flatten.take k, a1⟩ (off RS w) w nw) := by
  obtain ⟨nw, hw2⟩ := reads_to hR hr rfl 0 rfl (Nat.zero_le _) w (Nat.zero_le _) (Nat.le_of_lt hw)
  obtain ⟨num, L, e, hn, hl⟩ := hR w _ (List.getElem?_eq_getElem hw)
  have hos := off_succ RS w hw
  have hre : Reads 0 (RS.flatten.take k) 0 0 [] (off RS w) (0 + (w - 0)) nw := hw2.ext (by rw [List.take_take, Nat.min_eq_left h1])
  rw [Nat.zero_add, Nat.sub_zero] at hre
  refine ⟨nw, recover_stop (m := ⟨[], [], RS.flatten.take k, a1⟩) (by rw [List.length_take]; omega) ha hre ?_⟩
  show take 0 w nw ((RS.flatten.take k).drop (off RS w)) (off RS w == 0) = .stop
  have hd : (RS.flatten.take k).drop (off RS w) = (record 0 num L).take (k - off RS w) := by
    rw [List.drop_take, flat_at RS w hw, e, List.take_append_of_le_length (by rw [← e]; omega)]
  rw [hd]
  exact take_torn 0 w nw 0 num L (k - off RS w) _ hn (by omega) (by rw [← e]; omega)
end J
end Go.Proofs.Ythjjbaiijelhnaa
/- Law 30, JournalsDamage: the disk of a store that was never compacted. -/
namespace Go.Proofs.Ythjjbaiijelhnaa
namespace J
theorem fold0 : ∀ (l : List Wr) (m : Img), (∀ w ∈ l, w.kind = 0 ∧ w.idx = 0) → foldDone m l = ⟨m.h0, m.h1, m.a0 ++ (l.map (·.bs)).flatten, m.a1⟩
  | [], m, _ => by simp [foldDone]
  | w :: t, m, h => by
    obtain ⟨h1, h2⟩ := h w List.mem_cons_self
    have e : done m w w.bs.length = ⟨m.h0, m.h1, m.a0 ++ w.bs, m.a1⟩ := by
      unfold done
      rw [if_pos h1, h2, List.take_length]
      rfl
    show foldDone (done m w w.bs.length) t = _
    rw [e, fold0 t _ (fun x hx => h x (List.mem_cons_of_mem _ hx))]
    simp
/-- The records of a store. -/
def recsOf (s : St) : List B := s.writes.map (·.bs)
structure Plain (s : St) : Prop where
  recs : Recs (recsOf s)
  disk : s.disk = ⟨[], [], (recsOf s).flatten, []⟩
  reads : Reads 0 (recsOf s).flatten 0 0 [] (recsOf s).flatten.length s.commits s.com
  small : (recsOf s).flatten.length ≤ 8388608
  cut : ∀ w t, w < s.writes.length → t < ((recsOf s)[w]?.getD []).length → cutImg s w t = ⟨[], [], (recsOf s).flatten.take (off (recsOf s) w + t), []⟩
theorem plain_of {u : Nat} {s : St} {m : LM} (hK : Kept 0 0 u s m) (hu : u ≤ 130) (h0 : s.disk.h0 = []) (h1 : s.disk.h1 = []) : Plain s := by
  have hd := hK.inv.disk
  have hc := hd.cur
  rw [h0, h1] at hc
  have hg : s.gen = 0 := by have := congrArg Prod.fst hc; exact this.symm
  have har : s.area = 0 := by have := congrArg (fun x => x.2.1) hc; exact this.symm
  obtain ⟨c0, e1, e2⟩ := hK.mo.ch hg
  rw [har] at e2
  have hall : ∀ w ∈ s.writes, w.kind = 0 ∧ w.idx = 0 := fun w hw => by
    obtain ⟨i, hi, rfl⟩ := List.getElem_of_mem hw
    have := e2 i _ (List.getElem?_eq_getElem hi)
    exact ⟨this.1, this.2.1⟩
  have hf := fold0 s.writes s.base hall
  have hb0 : s.base.a0 = [] := List.eq_nil_of_length_eq_zero (Nat.le_zero.1 hK.mo.b0)
  have hb1 : s.base.a1 = [] := List.eq_nil_of_length_eq_zero (Nat.le_zero.1 hK.mo.b1)
  have hdk := hK.inv.fold
  rw [hf, hb0, hb1, List.nil_append] at hdk
  have hbh0 : s.base.h0 = [] := by rw [hdk] at h0; exact h0
  have hbh1 : s.base.h1 = [] := by rw [hdk] at h1; exact h1
  have hdisk : s.disk = ⟨[], [], (recsOf s).flatten, []⟩ := by rw [hdk, hbh0, hbh1]; rfl
  have hfull := hd.full
  rw [hg, har, hdisk] at hfull
  have hsm := hd.a0
  rw [hdisk] at hsm
  refine ⟨fun i r hr => ?_, hdisk, hfull, hsm, fun w t hw ht => ?_⟩
  · have hi : i < s.writes.length := by
      have := (List.getElem?_eq_some_iff.1 hr).1
      simpa [recsOf] using this
    obtain ⟨_, _, L, hL⟩ := e2 i _ (List.getElem?_eq_getElem hi)
    have er : r = s.writes[i].bs := by
      have h : (recsOf s)[i]? = some (s.writes[i].bs) := by simp [recsOf, hi]
      rw [h] at hr; injection hr with hr; exact hr.symm
    have hwb := hK.bud.wb _ (List.getElem_mem hi)
    have hcm := hK.bud.cm
    rw [hL, record_len] at hwb
    exact ⟨c0 + i + 1, L, by rw [er, hL], by omega, by omega⟩
  · have hgw : s.writes[w]? = some s.writes[w] := List.getElem?_eq_getElem hw
    have hrw : (recsOf s)[w]? = some (s.writes[w].bs) := by simp [recsOf, hw]
    rw [hrw] at ht
    have ht : t < s.writes[w].bs.length := ht
    have hlen : w < (recsOf s).length := by simp [recsOf]; exact hw
    have hge : (recsOf s)[w] = s.writes[w].bs := by
      rw [List.getElem?_eq_getElem hlen] at hrw; injection hrw
    have hft := fold0 (s.writes.take w) s.base (fun x hx => hall x (List.mem_of_mem_take hx))
    rw [hb0, hb1, hbh0, hbh1, List.nil_append, List.map_take] at hft
    have hfl : (recsOf s).flatten.take (off (recsOf s) w + t) = ((recsOf s).take w).flatten ++ s.writes[w].bs.take t := by
      rw [List.take_add, flat_take, flat_at _ _ hlen, hge, List.take_append_of_le_length (by omega)]
    obtain ⟨k1, k2⟩ := hall _ (List.getElem_mem hw)
    unfold cutImg
    rw [hgw]
    dsimp only
    rw [hft]
    by_cases ht0 : t = 0
    · rw [if_pos ht0, hfl, ht0, List.take_zero, List.append_nil]; rfl
    · rw [if_neg ht0, hfl]
      unfold done
      rw [if_pos k1, k2]
      rfl
end J
end Go.Proofs.Ythjjbaiijelhnaa
