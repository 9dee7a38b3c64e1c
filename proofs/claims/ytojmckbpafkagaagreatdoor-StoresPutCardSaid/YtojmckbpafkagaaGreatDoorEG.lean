import Derived.Test.YtojmckbpafkagaaGreatDoorEF
import Derived.Scope
import Derived.Laws.RangeString
namespace Go.Ev
open Go Go.RowKit
set_option linter.unusedVariables false
set_option linter.unusedSimpArgs false

/-! ## what an abstract heap keeps -/
def WF (H : Heap) : Prop := ∀ i b, H.blks.get i = some b → b.ver ≤ H.clock ∧ i < H.next
structure AM (H H' : Heap) : Prop where
  clock : H.clock ≤ H'.clock
  next : H.next ≤ H'.next
  mono : ∀ (i : Nat) (b : ABlk), i < H.next → H'.blks.get i = some b → b.live → ∃ b0, H.blks.get i = some b0 ∧ b0.live ∧ b0.ver ≤ b.ver
theorem AM.refl (H : Heap) : AM H H := ⟨Nat.le_refl _, Nat.le_refl _, fun i b _ h hl => ⟨b, h, hl, Nat.le_refl _⟩⟩
theorem AM.trans {a b c : Heap} (h : AM a b) (k : AM b c) : AM a c :=
  ⟨Nat.le_trans h.clock k.clock, Nat.le_trans h.next k.next, fun i x hi hx hl => by
    obtain ⟨x1, h1, h2, h3⟩ := k.mono i x (Nat.lt_of_lt_of_le hi h.next) hx hl
    obtain ⟨x0, h4, h5, h6⟩ := h.mono i x1 hi h1 h2
    exact ⟨x0, h4, h5, Nat.le_trans h6 h3⟩⟩
theorem HR.wf {base : Bas} {φ : Emb} {H : Heap} {w : World} (h : HR base φ H w) : WF H := h.ver
theorem push_am {H : Heap} (h : WF H) {b : ABlk} (hv : b.ver ≤ H.clock) : WF (H.push b) ∧ AM H (H.push b) := by
  have hg : ∀ i b', (H.push b).blks.get i = some b' → (i = H.next ∧ b' = b) ∨ (i ≠ H.next ∧ H.blks.get i = some b') := by
    intro i b' hi
    simp only [Heap.push, Tr.get_set] at hi
    split at hi
    · rename_i he; injection hi with hi; exact .inl ⟨he, hi.symm⟩
    · rename_i he; exact .inr ⟨he, hi⟩
  refine ⟨fun i b' hi => ?_, Nat.le_refl _, Nat.le_succ _, fun i b' hi hb hl => ?_⟩
  · rcases hg i b' hi with ⟨rfl, rfl⟩ | ⟨_, hi⟩
    · exact ⟨hv, Nat.lt_succ_self _⟩
    · exact ⟨(h i b' hi).1, Nat.lt_succ_of_lt (h i b' hi).2⟩
  · rcases hg i b' hb with ⟨rfl, rfl⟩ | ⟨_, hb⟩
    · exact absurd hi (Nat.lt_irrefl _)
    · exact ⟨b', hb, hl, Nat.le_refl _⟩
theorem put_am {H : Heap} (h : WF H) {i : Nat} {b0 : ABlk} {b : Nat → ABlk} (hi : H.blks.get i = some b0) (hl : b0.live) (hv : ∀ v, (b v).ver = v) : WF (H.put i b) ∧ AM H (H.put i b) := by
  have hg : ∀ j b', (H.put i b).blks.get j = some b' → (j = i ∧ b' = b (H.clock + 1)) ∨ (j ≠ i ∧ H.blks.get j = some b') := by
    intro j b' hj
    simp only [Heap.put, Tr.get_set] at hj
    split at hj
    · rename_i he; injection hj with hj; exact .inl ⟨he, hj.symm⟩
    · rename_i he; exact .inr ⟨he, hj⟩
  refine ⟨fun j b' hj => ?_, Nat.le_succ _, Nat.le_refl _, fun j b' hj hb hl' => ?_⟩
  · rcases hg j b' hj with ⟨rfl, rfl⟩ | ⟨_, hj⟩
    · rw [hv]; exact ⟨Nat.le_refl _, (h _ b0 hi).2⟩
    · exact ⟨Nat.le_succ_of_le (h j b' hj).1, (h j b' hj).2⟩
  · rcases hg j b' hb with ⟨rfl, rfl⟩ | ⟨_, hb⟩
    · rw [hv]; exact ⟨b0, hi, hl, Nat.le_succ_of_le (h _ b0 hi).1⟩
    · exact ⟨b', hb, hl', Nat.le_refl _⟩
theorem kill_am {H : Heap} (h : WF H) {i : Nat} (hi : i < H.next) : WF (H.kill i) ∧ AM H (H.kill i) := by
  refine ⟨fun j b hj => ?_, Nat.le_refl _, Nat.le_refl _, fun j b hj hb hl => ?_⟩
  · rcases kill_get hj with ⟨rfl, rfl⟩ | ⟨_, hj⟩
    · exact ⟨Nat.zero_le _, hi⟩
    · exact h j b hj
  · rcases kill_get hb with ⟨_, rfl⟩ | ⟨_, hb⟩
    · exact hl.elim
    · exact ⟨b, hb, hl, Nat.le_refl _⟩
theorem wop_am {P : Program} {H : Heap} {tm : Tr Value} {op : Op} {r : Value × Heap} (hW : WF H) (h : wop P H tm op = some r) : WF r.2 ∧ AM H r.2 := by
  cases op <;> simp only [wop] at h <;> try (cases h; done)
  case alloc e =>
    unfold wAlloc at h
    split at h <;> try (cases h; done)
    split at h <;> try (cases h; done)
    injection h with h; subst h
    exact push_am hW (Nat.le_refl _)
  case box e x =>
    obtain ⟨v, hv, h⟩ := wop1_some h
    injection h with h; subst h
    exact push_am hW (Nat.le_refl _)
  case buildSlice t n ps =>
    unfold opBuildS at h
    split at h <;> try (cases h; done)
    unfold wBuildS at h
    split at h <;> try (cases h; done)
    split at h <;> try (cases h; done)
    split at h <;> try (cases h; done)
    injection h with h; subst h
    exact push_am hW (Nat.le_refl _)
  case store t x y =>
    obtain ⟨v, u, hv, hu, h⟩ := wop2_some h
    unfold opStore at h
    split at h <;> try (cases h; done)
    rename_i H' hw
    injection h with h; subst h
    unfold wStore at hw
    split at hw <;> try (cases hw; done)
    split at hw <;> try (cases hw; done)
    rename_i hi
    split at hw <;> try (cases hw; done)
    split at hw <;> try (cases hw; done)
    injection hw with hw; subst hw
    exact put_am hW hi trivial (fun _ => rfl)
  case convert s d x =>
    obtain ⟨v, hv, h⟩ := wop1_some h
    unfold wConv2 at h
    split at h
    rotate_left
    · unfold wConvS at h
      split at h <;> try (cases h; done)
      split at h <;> try (cases h; done)
      split at h <;> try (cases h; done)
      rename_i hi
      injection h with h; subst h
      exact put_am hW hi trivial (fun _ => rfl)
    rename_i r0 h0
    injection h with h; subst h
    replace h := h0
    clear h0
    unfold wConv at h
    split at h <;> try (cases h; done)
    split at h <;> try (cases h; done)
    split at h <;> try (cases h; done)
    split at h <;> try (cases h; done)
    injection h with h; subst h
    exact push_am hW (Nat.le_refl _)
  case makeSlice t l c =>
    obtain ⟨v, u, hv, hu, h⟩ := wop2_some h
    unfold wMakeS at h
    split at h <;> try (cases h; done)
    split at h <;> try (cases h; done)
    split at h <;> try (cases h; done)
    split at h <;> try (cases h; done)
    injection h with h; subst h
    exact push_am hW (Nat.le_refl _)
  case call c =>
    unfold opWCall at h
    split at h <;> try (cases h; done)
    unfold opWBuiltin at h
    split at h <;> try (cases h; done)
    · split at h <;> try (cases h; done)
      split at h <;> try (cases h; done)
      obtain ⟨v, u, hv, hu, h⟩ := wop2_some h
      unfold wAppend2 at h
      split at h
      rotate_left
      · unfold wAppZ at h
        split at h <;> try (cases h; done)
        split at h <;> try (cases h; done)
        split at h <;> try (cases h; done)
        split at h <;> try (cases h; done)
        injection h with h; subst h
        exact push_am hW (Nat.le_refl _)
      rename_i r0 h0
      injection h with h; subst h
      replace h := h0
      clear h0
      unfold wAppend at h
      split at h <;> try (cases h; done)
      split at h <;> try (cases h; done)
      split at h <;> try (cases h; done)
      split at h <;> try (cases h; done)
      split at h <;> try (cases h; done)
      split at h
      · split at h <;> try (cases h; done)
        injection h with h; subst h
        exact ⟨hW, AM.refl H⟩
      · split at h <;> try (cases h; done)
        · split at h <;> try (cases h; done)
          injection h with h; subst h
          exact push_am hW (Nat.le_refl _)
        · split at h
          · split at h
            · split at h <;> try (cases h; done)
              rename_i hi
              split at h <;> try (cases h; done)
              injection h with h; subst h
              exact put_am hW hi trivial (fun _ => rfl)
            · split at h <;> try (cases h; done)
              injection h with h; subst h
              exact push_am hW (Nat.le_refl _)
          · split at h <;> try (cases h; done)
            split at h <;> try (cases h; done)
            split at h <;> try (cases h; done)
            rename_i hi
            split at h <;> try (cases h; done)
            injection h with h; subst h
            obtain ⟨k1, k2⟩ := kill_am hW (hW _ _ hi).2
            obtain ⟨k3, k4⟩ := push_am (b := .row H.clock _ _ _ _) k1 (Nat.le_refl _)
            exact ⟨k3, k2.trans k4⟩
    · split at h <;> try (cases h; done)
      split at h <;> try (cases h; done)
      obtain ⟨v, u, hv, hu, h⟩ := wop2_some h
      unfold wCopy at h
      split at h <;> try (cases h; done)
      rename_i e sz by_ zl hel
      split at h <;> try (cases h; done)
      rename_i a dl kd
      split at h <;> try (cases h; done)
      rename_i n hn
      unfold copyGo at h
      split at h
      · injection h with h; subst h; exact ⟨hW, AM.refl H⟩
      · split at h <;> try (cases h; done)
        split at h <;> try (cases h; done)
        split at h <;> try (cases h; done)
        rename_i hi
        split at h <;> try (cases h; done)
        injection h with h; subst h
        exact put_am hW hi trivial (fun _ => rfl)
    · split at h <;> try (cases h; done)
      split at h <;> try (cases h; done)
      obtain ⟨v, u, hv, hu, h⟩ := wop2_some h
      unfold wStr at h
      split at h <;> try (cases h; done)
      split at h
      · split at h <;> try (cases h; done)
        injection h with h; subst h; exact ⟨hW, AM.refl H⟩
      · split at h <;> try (cases h; done)
        split at h <;> try (cases h; done)
        rename_i hi
        split at h <;> try (cases h; done)
        split at h <;> try (cases h; done)
        split at h <;> try (cases h; done)
        split at h <;> try (cases h; done)
        injection h with h; subst h
        exact kill_am hW (hW _ _ hi).2
    · split at h <;> try (cases h; done)
      split at h <;> try (cases h; done)
      obtain ⟨v, hv, h⟩ := wop1_some h
      unfold wClear at h
      split at h <;> try (cases h; done)
      · split at h <;> try (cases h; done)
        injection h with h; subst h; exact ⟨hW, AM.refl H⟩
      · split at h <;> try (cases h; done)
        split at h <;> try (cases h; done)
        split at h <;> try (cases h; done)
        rename_i hi
        split at h <;> try (cases h; done)
        injection h with h; subst h
        exact put_am hW hi trivial (fun _ => rfl)
end Go.Ev
namespace Go.Ev
open Go Go.RowKit
set_option linter.unusedVariables false
set_option linter.unusedSimpArgs false

/-! ## texts, ranged over -/
def rngLay (P : Program) (t : TypeId) : Bool := match P.underlying t with | some .string => true | _ => false
noncomputable def wRange (P : Program) (H : Heap) (t : TypeId) (v : Value) : Option (Value × Heap) :=
  match rngLay P t with
  | true => match v with | .string s => some (.pointer (some ⟨H.next, 0, none⟩), H.push (.iter H.clock s 0)) | _ => none
  | false => none
theorem wRange_ok {P : Program} {base : Bas} {φ : Emb} {H : Heap} {w : World} (hH : HR base φ H w) {t : TypeId} {v v' : Value} (hv : VR φ v v') {r : Value × Heap} (h : wRange P H t v = some r) : WOk P base φ H w (Instr.range t v') r.1 r.2 := by
  unfold wRange at h
  split at h <;> try (cases h; done)
  rename_i hl
  split at h <;> try (cases h; done)
  rename_i s
  injection h with h; subst h
  cases hv
  have hu : P.underlying t = some .string := by
    unfold rngLay at hl
    split at hl
    · assumption
    · cases hl
  obtain ⟨k1, k2, k3, k4⟩ := hH.push (.iter H.clock s 0) (.stringIter s 0) 0 (Nat.le_refl _) rfl
  refine ⟨_, _, _, k1, k2, k3, .ptr k4, ?_⟩
  simp only [Instr.range, Sem.run_bind, run_underlying hu, Result.andThen_ok]
  rfl
/-- The rune at a place: its number and its width. -/
noncomputable def decA (s : ByteArray) (pos : Nat) : Nat × Nat :=
  match nthB (bs s) pos with
  | some b => match Nat.blt b.toNat 128 with | true => (b.toNat, 1) | false => Utf8.decode s pos
  | none => Utf8.decode s pos
theorem decA_eq (s : ByteArray) (pos : Nat) : decA s pos = Utf8.decode s pos := by
  unfold decA
  split
  · rename_i b hb
    rw [nthB_eq] at hb
    split
    · rename_i hlt
      obtain ⟨⟨l⟩⟩ := s
      have h1 : pos < l.length := (List.getElem?_eq_some_iff.1 hb).1
      have h2 : l[pos] = b := (List.getElem?_eq_some_iff.1 hb).2
      have hlt' : b.toNat < 128 := Nat.le_of_ble_eq_true hlt
      have hget : ((⟨⟨l⟩⟩ : ByteArray)[pos]'h1) = b := h2
      have := decode_ascii ⟨⟨l⟩⟩ pos h1 (by rw [hget]; exact hlt')
      rw [this, hget]
    · rfl
  · rfl
noncomputable def wNext (H : Heap) (it : Value) (isStr : Bool) : Option (Value × Heap) :=
  match isStr with
  | true => match it with
    | .pointer (some ⟨i, 0, none⟩) => match H.blks.get i with
      | some (.iter _ s pos) => match Nat.blt pos (lenB (bs s)) with
        | true => match decA s pos with
          | (c, wd) => some (.tuple ⟨[.bool true, .int .i64 (.ofNat pos), .int .i32 (.ofNat c)]⟩, H.put i (fun ver => .iter ver s (Nat.add pos wd)))
        | false => some (.tuple ⟨[.bool false]⟩, H)
      | _ => none
    | _ => none
  | false => none
theorem getObj_other {P : Program} {w : World} {r : Nat} {o : Obj} (h : w.heap[r]? = some o) (hc : ∀ c e f, o ≠ .cells c e f) : (getObj r).run P w = .ok o w := by
  unfold getObj
  cases o <;> first | exact absurd rfl (hc _ _ _) | simp [Sem.run, h]
theorem setObj_other {P : Program} {w : World} {r : Nat} {o : Obj} (h : w.heap[r]? = some o) (hc : ∀ c e f, o ≠ .cells c e f) (o' : Obj) : (setObj r o').run P w = .ok () { w with heap := w.heap.setIfInBounds r o' } := by
  unfold setObj
  cases o <;> first | exact absurd rfl (hc _ _ _) | simp [Sem.run, h]
theorem set_grownBy {w : World} {r : Nat} (o : Obj) : w.grownBy { w with heap := w.heap.setIfInBounds r o } (some r) :=
  ⟨rfl, rfl, rfl, by simp, fun k _ hk => by
    show (w.heap.setIfInBounds r o)[k]? = _
    rw [Array.getElem?_setIfInBounds_ne (fun e => hk (by rw [e]))]⟩
theorem wNext_ok {P : Program} {base : Bas} {φ : Emb} {H : Heap} {w : World} (hH : HR base φ H w) {it it' : Value} (hv : VR φ it it') {b : Bool} {ty : TypeId} {r : Value × Heap} (h : wNext H it b = some r) : WOk P base φ H w (Instr.next it' b ty) r.1 r.2 := by
  unfold wNext at h
  split at h <;> try (cases h; done)
  split at h <;> try (cases h; done)
  rename_i i
  split at h <;> try (cases h; done)
  rename_i ver s pos hi
  cases hv with
  | ptr hp =>
  rename_i B c
  have hb : w.heap[B]? = some (.stringIter s pos) := hH.blk i _ B c hi hp
  have hg := getObj_other (P := P) hb (by intros; simp)
  have hlen : lenB (bs s) = s.size := by rw [lenB_eq]; rfl
  split at h
  · rename_i hlt
    have hlt' : pos < s.size := by rw [← hlen]; exact Nat.le_of_ble_eq_true hlt
    rw [decA_eq] at h
    injection h with h; subst h
    have hs := setObj_other (P := P) hb (by intros; simp) (.stringIter s (pos + (Utf8.decode s pos).2))
    have hlt2 : B < w.heap.size := (hH.rng i B c hp).2
    obtain ⟨k1, k2⟩ := hH.put i _ (fun ver => .iter ver s (pos + (Utf8.decode s pos).2)) B c hi trivial hp (fun _ => rfl) (set_grownBy (.stringIter s (pos + (Utf8.decode s pos).2))) (by simp) (by
      show (w.heap.setIfInBounds B _)[B]? = _
      simp [hlt2])
    refine ⟨φ, _, _, Ext.refl φ, k1, k2, VR.tuple _ [.bool true, .int .i64 (.ofNat pos), .int .i32 (.ofNat (Utf8.decode s pos).1)] rfl ((VRs.cons (.bool true) (VRs.cons (.int _ _) (VRs.cons (.int _ _) (VRs.nil φ)))).2), ?_⟩
    simp only [Instr.next, Sem.run_bind, hg, Result.andThen_ok, hlt', if_true, hs, Sem.run_pure]
    rfl
  · rename_i hlt
    have hlt' : ¬ pos < s.size := fun e => by
      rw [← hlen] at e
      have := Nat.ble_eq_true_of_le e
      have h8 : Nat.blt pos (lenB (bs s)) = true := this
      rw [h8] at hlt; cases hlt
    injection h with h; subst h
    refine ⟨φ, _, w, Ext.refl φ, hH, FR.refl φ H w, VR.tuple _ [.bool false] rfl ((VRs.cons (.bool false) (VRs.nil φ)).2), ?_⟩
    simp only [Instr.next, Sem.run_bind, hg, Result.andThen_ok, hlt', if_false, Sem.run_pure]
/-! ## maps -/
noncomputable def wMakeM (H : Heap) : Option (Value × Heap) := some (.map (some H.next), H.push (.map H.clock [] 0))
theorem wMakeM_ok {P : Program} {base : Bas} {φ : Emb} {H : Heap} {w : World} (hH : HR base φ H w) {t : TypeId} {r : Value × Heap} (h : wMakeM H = some r) : WOk P base φ H w (Instr.makeMap t none) r.1 r.2 := by
  injection h with h; subst h
  obtain ⟨k1, k2, k3, k4⟩ := hH.push (.map H.clock [] 0) (.map #[] 0) 0 (Nat.le_refl _) ⟨[], rfl, rfl, by simp⟩
  exact ⟨_, _, _, k1, k2, k3, .map k4, rfl⟩
/-- keys of texts or of whole numbers -/
def keyK (d : TypeDesc) : Option Bool := match d with | .string => some true | .int _ => some false | _ => none
noncomputable def sameA (k e : Value) : Option Bool :=
  match k with
  | .string a => match e with | .string b => some (eqL (bs a) (bs b)) | _ => none
  | .int i a => match e with | .int j b => (match decide (i = j) with | true => some (eqI a b) | false => none) | _ => none
  | _ => none
noncomputable def findA (k : Value) (es : List (Value × Value × Nat)) : Nat → Option (Option (Nat × Value)) :=
  List.rec (motive := fun _ => Nat → Option (Option (Nat × Value))) (fun _ => some none)
    (fun e _ ih i => match sameA k e.1 with | some true => some (some (i, e.2.1)) | some false => ih (Nat.succ i) | none => none) es
def kindOk (d : TypeDesc) (k : Value) : Bool := match d, k with | .string, .string _ => true | .int _, .int _ _ => true | _, _ => false
theorem sameA_ok {φ : Emb} {d : TypeDesc} {k k' e e' : Value} {b : Bool} (hd : kindOk d k = true) (hk : VR φ k k') (he : VR φ e e') (h : sameA k e = some b) : Instr.sameNow d k' e' = some b := by
  unfold sameA at h
  split at h
  · split at h <;> try (cases h; done)
    injection h with h; subst h
    cases hk; cases he
    cases d <;> simp [kindOk] at hd
    simp [Instr.sameNow, beq_toListBytes, bs_eq, eqL_eq]
  · split at h <;> try (cases h; done)
    split at h <;> try (cases h; done)
    rename_i hij
    have hij' := of_decide_eq_true hij
    subst hij'
    injection h with h; subst h
    cases hk; cases he
    cases d <;> simp [kindOk] at hd
    simp [Instr.sameNow, eqI_eq]
  · cases h
/-- Entries that are read alike. -/
def ERs (φ : Emb) (es : List (Value × Value × Nat)) (es' : List MapEntry) : Prop := es.length = es'.length ∧ ∀ (j : Nat) k v b e, es[j]? = some (k, v, b) → es'[j]? = some e → VR φ k e.key ∧ VR φ v e.val ∧ e.born = b
theorem ERs.inv_cons {φ : Emb} {x : Value × Value × Nat} {l : List (Value × Value × Nat)} {l' : List MapEntry} (h : ERs φ (x :: l) l') : ∃ e r, l' = e :: r ∧ VR φ x.1 e.key ∧ VR φ x.2.1 e.val ∧ e.born = x.2.2 ∧ ERs φ l r := by
  cases l' with
  | nil => have := h.1; simp at this
  | cons e r =>
    obtain ⟨k, v, b⟩ := x
    obtain ⟨h1, h2, h3⟩ := h.2 0 k v b e rfl rfl
    exact ⟨e, r, rfl, h1, h2, h3, by have := h.1; simpa using this, fun j k v b e h1 h2 => h.2 (j + 1) k v b e (by simpa using h1) (by simpa using h2)⟩
theorem findA_ok {φ : Emb} {d : TypeDesc} {k k' : Value} (hd : kindOk d k = true) (hk : VR φ k k') : ∀ {es : List (Value × Value × Nat)} {es' : List MapEntry} {i : Nat} {r : Option (Nat × Value)}, ERs φ es es' → findA k es i = some r →
    ∃ r', Instr.findNow d k' es' i = some r' ∧ ((r = none ∧ r' = none) ∨ ∃ j v v', r = some (j, v) ∧ r' = some (j, v') ∧ VR φ v v' ∧ i ≤ j ∧ j < i + es.length)
  | [], es', i, r, he, h => by
    have : r = none := by injection h with h; exact h.symm
    subst this
    have h0 := he.1
    have h1 : es' = [] := List.eq_nil_of_length_eq_zero (by rw [← h0]; rfl)
    subst h1
    exact ⟨none, rfl, .inl ⟨rfl, rfl⟩⟩
  | x :: es, es', i, r, he, h => by
    obtain ⟨e, rr, rfl, h1, h2, h3, h4⟩ := he.inv_cons
    have h' : (match sameA k x.1 with | some true => some (some (i, x.2.1)) | some false => findA k es (i + 1) | none => none) = some r := h
    split at h' <;> try (cases h'; done)
    · rename_i hs
      injection h' with h'; subst h'
      refine ⟨some (i, e.val), ?_, .inr ⟨i, x.2.1, e.val, rfl, rfl, h2, Nat.le_refl _, by simp⟩⟩
      simp [Instr.findNow, sameA_ok hd hk h1 hs]
    · rename_i hs
      obtain ⟨r', k1, k2⟩ := findA_ok hd hk h4 h'
      refine ⟨r', ?_, ?_⟩
      · simp [Instr.findNow, sameA_ok hd hk h1 hs, k1]
      · rcases k2 with k2 | ⟨j, v, v', e1, e2, e3, e4, e5⟩
        · exact .inl k2
        · exact .inr ⟨j, v, v', e1, e2, e3, by omega, by simp; omega⟩
/-- The key's and the element's types of a map's type; and the element's zero. -/
def mapLay (P : Program) (t : TypeId) : Option (TypeDesc × TypeId) :=
  match P.underlying t with
  | some (.map k e) => match P.underlying k with | some d => some (d, e) | none => none
  | _ => none
theorem run_checkKey {P : Program} (w : World) {b : Bool} {n : Nat} {t : TypeId} {d : TypeDesc} (hu : P.underlying t = some d) {v : Value} (hd : kindOk d v = true) : (Instr.checkKey b (n + 1) t v).run P w = .ok () w := by
  cases d <;> cases v <;> simp [kindOk] at hd <;> simp [Instr.checkKey, run_underlying hu]
theorem run_findKey {P : Program} (w : World) {t : TypeId} {d : TypeDesc} (hu : P.underlying t = some d) {k : Value} {es : List MapEntry} {r : Option (Nat × Value)} (h : Instr.findNow d k es 0 = some r) : (Instr.findKey t k es).run P w = .ok r w := by
  simp [Instr.findKey, run_underlying hu, h]
def zeroV (P : Program) (t : TypeId) : Option Value := match P.info? t with | some i => i.zero | none => none
noncomputable def lookR (P : Program) (e : TypeId) (ok : Bool) (a : Option Nat) (x : Option (Nat × Value)) : Option (Value × Option Nat) :=
  match x with
  | some (_, v) => match ok with | true => some (.tuple ⟨[v, .bool true]⟩, a) | false => some (v, a)
  | none => match zeroV P e with
    | some z => match plain z with
      | true => match ok with | true => some (.tuple ⟨[z, .bool false]⟩, a) | false => some (z, a)
      | false => none
    | none => none
noncomputable def rLook (P : Program) (H : Heap) (t : TypeId) (ok : Bool) (m k : Value) : Option (Value × Option Nat) :=
  match mapLay P t with
  | some (d, e) => match kindOk d k with
    | true => match m with
      | .map none => lookR P e ok none none
      | .map (some i) => match H.blks.get i with
        | some (.map _ es _) => match findA k es 0 with | some x => lookR P e ok (some i) x | none => none
        | _ => none
      | _ => none
    | false => none
  | none => none
theorem mapLay_spec {P : Program} {t e : TypeId} {d : TypeDesc} (h : mapLay P t = some (d, e)) : ∃ k, P.underlying t = some (.map k e) ∧ P.underlying k = some d := by
  unfold mapLay at h
  split at h <;> try (cases h; done)
  rename_i k e' hu
  split at h <;> try (cases h; done)
  rename_i d' hd
  injection h with h; injection h with h1 h2; subst h1; subst h2
  exact ⟨k, hu, hd⟩
theorem kindOk_vr {φ : Emb} {d : TypeDesc} {k k' : Value} (h : VR φ k k') (hd : kindOk d k = true) : kindOk d k' = true := by
  cases h <;> first | exact hd | (cases d <;> simp [kindOk] at hd)
theorem HR.map {base : Bas} {φ : Emb} {H : Heap} {w : World} (h : HR base φ H w) {i B c : Nat} (hp : φ[i]? = some (B, c)) {ver clock : Nat} {es : List (Value × Value × Nat)} (hi : H.blks.get i = some (.map ver es clock)) :
    ∃ es' : List MapEntry, w.heap[B]? = some (.map ⟨es'⟩ clock) ∧ ERs φ es es' := by
  obtain ⟨es', h1, h2, h3⟩ := h.blk i _ B c hi hp
  exact ⟨es', h1, h2, h3⟩
/-- What a lookup gives, out of what is found. -/
def lookS (e : TypeId) (ok : Bool) (x' : Option (Nat × Value)) : Sem Value :=
  match x' with
  | some (_, v) => pure (if ok then .tuple #[v, .bool true] else v)
  | none => do let z ← zeroValue e; pure (if ok then .tuple #[z, .bool false] else z)
theorem run_look {P : Program} {w1 : World} {t kt e : TypeId} {d : TypeDesc} {ok : Bool} {k' : Value} (hu : P.underlying t = some (.map kt e)) (hkd : P.underlying kt = some d) (hd' : kindOk d k' = true) {m' : Value} {es' : List MapEntry} {x' : Option (Nat × Value)}
    (hm : (m' = .map none ∧ es' = []) ∨ ∃ B clock, m' = .map (some B) ∧ (getObj B).run P w1 = .ok (.map ⟨es'⟩ clock) w1) (hf : Instr.findNow d k' es' 0 = some x') : (Instr.lookup t m' k' ok).run P w1 = (lookS e ok x').run P w1 := by
  have h2 := fun b => run_checkKey (P := P) w1 (b := b) (n := 9999) hkd hd'
  have h3 := run_findKey (P := P) w1 hkd hf
  rcases hm with ⟨rfl, rfl⟩ | ⟨B, clock, rfl, hg⟩
  · cases x' with
    | none => simp [Instr.lookup, run_underlying hu, h2, h3, lookS]
    | some p => simp [Instr.lookup, run_underlying hu, h2, h3, lookS]
  · cases x' with
    | none => simp [Instr.lookup, run_underlying hu, hg, h2, h3, lookS]
    | some p => simp [Instr.lookup, run_underlying hu, hg, h2, h3, lookS]
theorem lookR_ok {P : Program} {φ : Emb} {w : World} {t kt e : TypeId} {d : TypeDesc} {ok : Bool} {k' : Value} (hu : P.underlying t = some (.map kt e)) (hkd : P.underlying kt = some d) (hd' : kindOk d k' = true) {a : Option Nat} {m' : Value} {es' : List MapEntry}
    (hm : ∀ w1 : World, (∀ i B c, a = some i → φ[i]? = some (B, c) → w1.heap[B]? = w.heap[B]?) → (m' = .map none ∧ es' = []) ∨ ∃ B clock, m' = .map (some B) ∧ (getObj B).run P w1 = .ok (.map ⟨es'⟩ clock) w1)
    {x x' : Option (Nat × Value)} (hf : Instr.findNow d k' es' 0 = some x') (hx : (x = none ∧ x' = none) ∨ ∃ j v v', x = some (j, v) ∧ x' = some (j, v') ∧ VR φ v v') {r : Value × Option Nat} (h : lookR P e ok a x = some r) : ROk P φ w (Instr.lookup t m' k' ok) r := by
  unfold lookR at h
  rcases hx with ⟨rfl, rfl⟩ | ⟨j, v, v', rfl, rfl, hv⟩
  · simp only at h
    split at h <;> try (cases h; done)
    rename_i z hz
    split at h <;> try (cases h; done)
    rename_i hp
    have hzv : ∀ w1, (zeroValue e).run P w1 = .ok z w1 := by
      intro w1
      unfold zeroV at hz
      split at hz <;> try (cases hz; done)
      rename_i i hi
      simp [zeroValue, typeInfo, hi, hz]
    have hz1 : ∃ z', VR φ z z' ∧ z' = z := ⟨z, VR.plain hp, rfl⟩
    cases ok with
    | true =>
      injection h with h; subst h
      exact ⟨.tuple ⟨[z, .bool false]⟩, .tuple _ _ rfl (VRs.cons (VR.plain hp) (VRs.cons (.bool false) (VRs.nil φ))).2, fun w1 hw1 => by rw [run_look hu hkd hd' (hm w1 hw1) hf]; simp [lookS, hzv]⟩
    | false =>
      injection h with h; subst h
      exact ⟨z, VR.plain hp, fun w1 hw1 => by rw [run_look hu hkd hd' (hm w1 hw1) hf]; simp [lookS, hzv]⟩
  · simp only at h
    cases ok with
    | true =>
      injection h with h; subst h
      exact ⟨.tuple ⟨[v', .bool true]⟩, .tuple _ _ rfl (VRs.cons hv (VRs.cons (.bool true) (VRs.nil φ))).2, fun w1 hw1 => by rw [run_look hu hkd hd' (hm w1 hw1) hf]; simp [lookS]⟩
    | false =>
      injection h with h; subst h
      exact ⟨v', hv, fun w1 hw1 => by rw [run_look hu hkd hd' (hm w1 hw1) hf]; simp [lookS]⟩
theorem rLook_ok {P : Program} {base : Bas} {φ : Emb} {H : Heap} {w : World} (hH : HR base φ H w) {t : TypeId} {ok : Bool} {m m' k k' : Value} (hm : VR φ m m') (hk : VR φ k k') {r : Value × Option Nat} (h : rLook P H t ok m k = some r) : ROk P φ w (Instr.lookup t m' k' ok) r := by
  unfold rLook at h
  split at h <;> try (cases h; done)
  rename_i d e hl
  split at h <;> try (cases h; done)
  rename_i hd
  obtain ⟨kt, hu, hkd⟩ := mapLay_spec hl
  have hd' := kindOk_vr hk hd
  split at h <;> try (cases h; done)
  · cases hm
    exact lookR_ok hu hkd hd' (es' := []) (fun w1 _ => .inl ⟨rfl, rfl⟩) (x' := none) rfl (.inl ⟨rfl, rfl⟩) h
  · rename_i i
    split at h <;> try (cases h; done)
    rename_i ver es clock hi
    split at h <;> try (cases h; done)
    rename_i x hx
    cases hm with
    | map hp =>
    rename_i B c
    obtain ⟨es', h1, h2⟩ := hH.map hp hi
    obtain ⟨x', k1, k2⟩ := findA_ok hd hk h2 hx
    refine lookR_ok hu hkd hd' (es' := es') (fun w1 hw1 => .inr ⟨B, clock, rfl, ?_⟩) k1 (k2.imp id fun ⟨j, v, v', e1, e2, e3, _⟩ => ⟨j, v, v', e1, e2, e3⟩) h
    have hB : w1.heap[B]? = some (.map ⟨es'⟩ clock) := by rw [hw1 i B c rfl hp]; exact h1
    exact getObj_other (P := P) hB (by intros; simp)
noncomputable def modL (es : List (Value × Value × Nat)) (j : Nat) (k x : Value) : List (Value × Value × Nat) :=
  List.rec (motive := fun _ => Nat → List (Value × Value × Nat)) (fun _ => []) (fun e l ih j => Nat.casesOn j ((k, x, e.2.2) :: l) (fun m => e :: ih m)) es j
theorem modL_ers {φ : Emb} {k k' x x' : Value} (hk : VR φ k k') (hx : VR φ x x') : ∀ {es : List (Value × Value × Nat)} {es' : List MapEntry} (j : Nat), ERs φ es es' → ERs φ (modL es j k x) (es'.modify j (fun e => { e with key := k', val := x' }))
  | [], es', j, h => by
    have h1 : es' = [] := List.eq_nil_of_length_eq_zero (by rw [← h.1]; rfl)
    subst h1
    show ERs φ [] _
    simpa using h
  | e :: es, es', j, h => by
    obtain ⟨e', r, rfl, h1, h2, h3, h4⟩ := h.inv_cons
    cases j with
    | zero =>
      show ERs φ ((k, x, e.2.2) :: es) _
      rw [List.modify_zero_cons]
      refine ⟨by simp [h4.1], fun i a b c d hi hd => ?_⟩
      cases i with
      | zero =>
        simp at hi hd
        obtain ⟨rfl, rfl, rfl⟩ := hi
        subst hd
        exact ⟨hk, hx, h3⟩
      | succ i => exact h4.2 i a b c d (by simpa using hi) (by simpa using hd)
    | succ j =>
      show ERs φ (e :: modL es j k x) _
      rw [List.modify_succ_cons]
      have ih := modL_ers hk hx j h4
      refine ⟨by simp [ih.1], fun i a b c d hi hd => ?_⟩
      cases i with
      | zero =>
        simp at hi hd
        subst hi; subst hd
        exact ⟨h1, h2, h3⟩
      | succ i => exact ih.2 i a b c d (by simpa using hi) (by simpa using hd)
theorem push_ers {φ : Emb} {k k' x x' : Value} (hk : VR φ k k') (hx : VR φ x x') {es : List (Value × Value × Nat)} {es' : List MapEntry} (clock : Nat) (h : ERs φ es es') : ERs φ (es ++ [(k, x, clock)]) (es' ++ [{ key := k', val := x', born := clock }]) := by
  refine ⟨by simp [h.1], fun i a b c d hi hd => ?_⟩
  by_cases hlt : i < es.length
  · rw [List.getElem?_append_left hlt] at hi
    rw [List.getElem?_append_left (by rw [← h.1]; exact hlt)] at hd
    exact h.2 i a b c d hi hd
  · rw [List.getElem?_append_right (by omega)] at hi
    rw [List.getElem?_append_right (by rw [← h.1]; omega), ← h.1] at hd
    cases hn : i - es.length with
    | zero =>
      rw [hn] at hi hd
      simp at hi hd
      obtain ⟨rfl, rfl, rfl⟩ := hi
      subst hd
      exact ⟨hk, hx, rfl⟩
    | succ n => rw [hn] at hi; simp at hi
noncomputable def wMapU (P : Program) (H : Heap) (t : TypeId) (m k x : Value) : Option (Value × Heap) :=
  match mapLay P t with
  | some (d, _) => match kindOk d k with
    | true => match m with
      | .map (some i) => match H.blks.get i with
        | some (.map _ es clock) => match findA k es 0 with
          | some (some (j, _)) => some (undefV, H.put i (fun ver => .map ver (modL es j k x) clock))
          | some none => some (undefV, H.put i (fun ver => .map ver (es ++ [(k, x, clock)]) (Nat.succ clock)))
          | none => none
        | _ => none
      | _ => none
    | false => none
  | none => none
theorem ba_beq (a b : ByteArray) : (a == b) = true ↔ a = b := by
  rw [beq_toListBytes, bs_eq, bs_eq, beq_iff_eq]
  constructor
  · intro h
    obtain ⟨⟨x⟩⟩ := a; obtain ⟨⟨y⟩⟩ := b
    have h' : x = y := h
    rw [h']
  · rintro rfl; rfl
/-- The key that is found is the key that is looked for. -/
theorem findNow_key {d : TypeDesc} {k : Value} (hd : kindOk d k = true) : ∀ {es : List MapEntry} {i j : Nat} {v : Value}, Instr.findNow d k es i = some (some (j, v)) → ∃ e, i ≤ j ∧ es[j - i]? = some e ∧ e.key = k
  | [], i, j, v, h => by simp [Instr.findNow] at h
  | e :: es, i, j, v, h => by
    simp only [Instr.findNow] at h
    split at h <;> try (cases h; done)
    · rename_i hs
      injection h with h; injection h with h; injection h with h1 h2; subst h1; subst h2
      refine ⟨e, Nat.le_refl _, by simp, ?_⟩
      cases d <;> cases k <;> simp [kindOk] at hd <;> cases hk : e.key <;> simp [Instr.sameNow, hk] at hs
      · obtain ⟨rfl, rfl⟩ := hs; rfl
      · rw [(ba_beq _ _).1 hs]
    · obtain ⟨e', h1, h2, h3⟩ := findNow_key hd h
      refine ⟨e', by omega, ?_, h3⟩
      rw [show j - i = (j - (i + 1)) + 1 by omega]
      simpa using h2
theorem sameBits_self {d : TypeDesc} {k : Value} (hd : kindOk d k = true) (n : Nat) : Instr.sameBits n k k = true := by
  cases d <;> cases k <;> simp [kindOk] at hd <;> simp [Instr.sameBits, ba_beq]
theorem wMapU_ok {P : Program} {base : Bas} {φ : Emb} {H : Heap} {w : World} (hH : HR base φ H w) {t : TypeId} {m m' k k' x x' : Value} (hm : VR φ m m') (hk : VR φ k k') (hx : VR φ x x') {r : Value × Heap} (h : wMapU P H t m k x = some r) :
    r.1 = undefV ∧ ∃ w', HR base φ r.2 w' ∧ FR φ φ H r.2 w w' ∧ (Instr.mapUpdate t m' k' x').run P w = .ok () w' := by
  unfold wMapU at h
  split at h <;> try (cases h; done)
  rename_i d e hl
  split at h <;> try (cases h; done)
  rename_i hd
  obtain ⟨kt, hu, hkd⟩ := mapLay_spec hl
  have hd' := kindOk_vr hk hd
  split at h <;> try (cases h; done)
  rename_i i
  split at h <;> try (cases h; done)
  rename_i ver es clock hi
  cases hm with
  | map hp =>
  rename_i B c
  obtain ⟨es', h1, h2⟩ := hH.map hp hi
  have hg := getObj_other (P := P) h1 (by intros; simp)
  have hck := run_checkKey (P := P) w (b := false) (n := 9999) hkd hd'
  have hlt2 : B < w.heap.size := (hH.rng i B c hp).2
  split at h <;> try (cases h; done)
  · rename_i j v0 hf
    injection h with h; subst h
    obtain ⟨r', k1, k2⟩ := findA_ok hd hk h2 hf
    rcases k2 with ⟨k2, _⟩ | ⟨j', v, v', e1, rfl, _⟩
    · cases k2
    injection e1 with e1; injection e1 with e1 _; subst e1
    obtain ⟨e0, _, g2, g3⟩ := findNow_key hd' k1
    rw [Nat.sub_zero] at g2
    have hfk := run_findKey (P := P) w hkd k1
    have hkeep : (Instr.keyThatStays (((es'[j]?).map (·.key)).getD k') k').run P w = .ok k' w := by
      rw [g2]
      simp [Instr.keyThatStays, g3, sameBits_self hd']
    have hs := setObj_other (P := P) h1 (by intros; simp) (.map ⟨es'.modify j (fun e => { e with key := k', val := x' })⟩ clock)
    obtain ⟨q1, q2⟩ := hH.put i _ (fun ver => .map ver (modL es j k x) clock) B c hi trivial hp (fun _ => rfl) (set_grownBy (.map ⟨es'.modify j (fun e => { e with key := k', val := x' })⟩ clock)) (by simp) (by
      have : (w.heap.setIfInBounds B (.map ⟨es'.modify j (fun e => { e with key := k', val := x' })⟩ clock))[B]? = some (.map ⟨es'.modify j (fun e => { e with key := k', val := x' })⟩ clock) := by simp [hlt2]
      exact ⟨_, this, modL_ers hk hx j h2⟩)
    refine ⟨rfl, _, q1, q2, ?_⟩
    have hmod : (⟨es'⟩ : Array MapEntry).modify j (fun e => { e with key := k', val := x' }) = ⟨es'.modify j (fun e => { e with key := k', val := x' })⟩ := by
      apply Array.ext'; simp
    simp only [Instr.mapUpdate, Sem.run_bind, run_underlying hu, Result.andThen_ok, hg, hck, hfk]
    simp only [Sem.run_bind, List.getElem?_toArray, hkeep, Result.andThen_ok, hmod, hs]
  · rename_i hf
    injection h with h; subst h
    obtain ⟨r', k1, k2⟩ := findA_ok hd hk h2 hf
    obtain rfl : r' = none := by
      rcases k2 with ⟨_, h0⟩ | ⟨j', v, v', e1, _⟩
      · exact h0
      · cases e1
    have hfk := run_findKey (P := P) w hkd k1
    have hs := setObj_other (P := P) h1 (by intros; simp) (.map ⟨es' ++ [{ key := k', val := x', born := clock }]⟩ (clock + 1))
    obtain ⟨q1, q2⟩ := hH.put i _ (fun ver => .map ver (es ++ [(k, x, clock)]) (clock + 1)) B c hi trivial hp (fun _ => rfl) (set_grownBy (.map ⟨es' ++ [{ key := k', val := x', born := clock }]⟩ (clock + 1))) (by simp) (by
      have : (w.heap.setIfInBounds B (.map ⟨es' ++ [{ key := k', val := x', born := clock }]⟩ (clock + 1)))[B]? = some (.map ⟨es' ++ [{ key := k', val := x', born := clock }]⟩ (clock + 1)) := by simp [hlt2]
      exact ⟨_, this, push_ers hk hx clock h2⟩)
    refine ⟨rfl, _, q1, q2, ?_⟩
    have hpush : (⟨es'⟩ : Array MapEntry).push { key := k', val := x', born := clock } = ⟨es' ++ [{ key := k', val := x', born := clock }]⟩ := by
      apply Array.ext'; simp
    simp only [Instr.mapUpdate, Sem.run_bind, run_underlying hu, Result.andThen_ok, hg, hck, hfk, hpush, hs]
end Go.Ev
namespace Go.Ev
open Go Go.RowKit
set_option linter.unusedVariables false
set_option linter.unusedSimpArgs false
/-! ## the same computations, laid so that the kernel copies little -/
abbrev RO := Option (Value × Option Nat)
inductive Vw where
  | oth
  | bool (b : Bool)
  | int (k : IntKind) (n : Int)
  | str (s : ByteArray)
  | ptr (i o : Nat)
  | agg (l : List Value)
  | tup (l : List Value)
  | fn (f : FuncId) (fs gs : List Value)
noncomputable def vwA (x : Addr) : Vw := Addr.rec (motive := fun _ => Vw) (fun i o p => Option.rec (motive := fun _ => Vw) (.ptr i o) (fun _ => .oth) p) x
noncomputable def vwP (x : Option Addr) : Vw := Option.rec (motive := fun _ => Vw) .oth vwA x
noncomputable def arrL (a : Array Value) : List Value := Array.rec (motive := fun _ => List Value) (fun l => l) a
noncomputable def vwFn (f : Fn) (fs gs : Array Value) : Vw := Fn.rec (motive := fun _ => Vw) (fun f => .fn f (arrL fs) (arrL gs)) (fun _ => .oth) (fun _ _ => .oth) (fun _ _ _ _ => .oth) (fun _ => .oth) f
noncomputable def vw (v : Value) : Vw :=
  Value.rec (motive_1 := fun _ => Vw) (motive_2 := fun _ => PUnit) (motive_3 := fun _ => PUnit) .bool .int (fun _ _ => .oth) (fun _ _ _ => .oth) .str vwP (fun _ _ _ => .oth) (fun _ => .oth) (fun _ => .oth) (fun f fs gs _ _ => vwFn f fs gs)
    .oth (fun _ _ _ => .oth) .oth (fun a _ => .agg (arrL a)) (fun a _ => .tup (arrL a)) (fun _ _ => .unit) .unit (fun _ _ _ _ => .unit) v

/-! ### load -/
noncomputable def ldS (i o n : Nat) (cs : Tr Value) : RO := Bool.rec (motive := fun _ => RO) none (Option.rec (motive := fun _ => RO) none (fun v => some (v, some i)) (cs.get o)) (Nat.blt o n)
noncomputable def ldA (i o n sz : Nat) (cs : Tr Value) : RO := Bool.rec (motive := fun _ => RO) none (Option.rec (motive := fun _ => RO) none (fun l => some (.agg ⟨l⟩, some i)) (cellsL cs sz o)) (Nat.ble (Nat.add o sz) n)
noncomputable def ldC (i o n : Nat) (cs : Tr Value) (lay : Option (Bool × Nat)) : RO :=
  Option.rec (motive := fun _ => RO) none (fun x => Prod.rec (motive := fun _ => RO) (fun b sz => Bool.rec (motive := fun _ => RO) (ldS i o n cs) (ldA i o n sz cs) b) x) lay
noncomputable def ldB (i o : Nat) (lay : Option (Bool × Nat)) (b : ABlk) : RO :=
  ABlk.rec (motive := fun _ => Nat → Nat → Option (Bool × Nat) → RO) (fun _ _ _ => none) (fun _ _ _ n cs i o lay => ldC i o n cs lay) (fun _ _ _ _ _ _ => none) (fun _ _ _ _ _ _ => none) (fun n cs i o lay => ldC i o n cs lay) b i o lay
noncomputable def ldP (i o : Nat) (P : Program) (H : Heap) (t : TypeId) : RO := Option.rec (motive := fun _ => RO) none (ldB i o (tyLay P t)) (H.blks.get i)
noncomputable def rLoadF (P : Program) (H : Heap) (t : TypeId) (v : Value) : RO :=
  Vw.rec (motive := fun _ => Program → Heap → TypeId → RO) (fun _ _ _ => none) (fun _ _ _ _ => none) (fun _ _ _ _ _ => none) (fun _ _ _ _ => none) ldP (fun _ _ _ _ => none) (fun _ _ _ _ => none) (fun _ _ _ _ _ _ => none) (vw v) P H t
theorem ldC_eq (i o n : Nat) (cs : Tr Value) (lay : Option (Bool × Nat)) : ldC i o n cs lay = match lay with
      | some (true, sz) => match Nat.ble (Nat.add o sz) n with
        | true => match cellsL cs sz o with | some l => some (.agg ⟨l⟩, some i) | none => none
        | false => none
      | some (false, _) => match Nat.blt o n with
        | true => match cs.get o with | some v => some (v, some i) | none => none
        | false => none
      | none => none := by
  cases lay with
  | none => rfl
  | some x =>
    obtain ⟨b, sz⟩ := x
    cases b with
    | true =>
      show ldA i o n sz cs = _
      unfold ldA
      simp only
      cases Nat.ble (Nat.add o sz) n with
      | false => rfl
      | true => cases cellsL cs sz o <;> rfl
    | false =>
      show ldS i o n cs = _
      unfold ldS
      simp only
      cases Nat.blt o n with
      | false => rfl
      | true => cases cs.get o <;> rfl
theorem rLoadF_eq (P : Program) (H : Heap) (t : TypeId) : rLoadF P H t = rLoad P H t := by
  funext v
  cases v with
  | pointer a => cases a with
    | none => rfl
    | some a =>
      obtain ⟨i, o, p⟩ := a
      cases p with
      | some x => rfl
      | none =>
        show ldP i o P H t = _
        unfold ldP rLoad
        simp only
        cases H.blks.get i with
        | none => rfl
        | some b => cases b with
          | row ve e sz n cs => exact ldC_eq i o n cs _
          | ro n cs => exact ldC_eq i o n cs _
          | _ => rfl
  | func f _ _ => cases f <;> rfl
  | _ => rfl

/-! ### the address of a field, a field -/
noncomputable def fldA (i o : Nat) (x : Nat × Bool × Nat) : RO := Nat.rec (motive := fun _ => RO) none (fun _ _ => some (.pointer (some ⟨i, Nat.add o x.1, none⟩), none)) x.2.2
noncomputable def fldP (i o : Nat) (P : Program) (t : TypeId) (f : Nat) : RO := Option.rec (motive := fun _ => RO) none (fldA i o) (fldLay P t f)
noncomputable def rFieldAF (P : Program) (t : TypeId) (f : Nat) (v : Value) : RO :=
  Vw.rec (motive := fun _ => Program → TypeId → Nat → RO) (fun _ _ _ => none) (fun _ _ _ _ => none) (fun _ _ _ _ _ => none) (fun _ _ _ _ => none) fldP (fun _ _ _ _ => none) (fun _ _ _ _ => none) (fun _ _ _ _ _ _ => none) (vw v) P t f
theorem rFieldAF_eq (P : Program) (t : TypeId) (f : Nat) : rFieldAF P t f = rFieldA P t f := by
  funext v
  cases v with
  | pointer a => cases a with
    | none => rfl
    | some a =>
      obtain ⟨i, o, p⟩ := a
      cases p with
      | some x => rfl
      | none =>
        show fldP i o P t f = _
        unfold fldP rFieldA
        simp only
        cases fldLay P t f with
        | none => rfl
        | some x => obtain ⟨a, b, c⟩ := x; cases c <;> rfl
  | func f _ _ => cases f <;> rfl
  | _ => rfl
noncomputable def fldV (l : List Value) (x : Nat × Bool × Nat) : RO := Option.rec (motive := fun _ => RO) none (fun u => some (u, none)) (partL x.2.1 x.2.2 l x.1)
noncomputable def fldQ (l : List Value) (P : Program) (t : TypeId) (f : Nat) : RO := Option.rec (motive := fun _ => RO) none (fldV l) (fldLay P t f)
noncomputable def rFieldF (P : Program) (t : TypeId) (f : Nat) (v : Value) : RO :=
  Vw.rec (motive := fun _ => Program → TypeId → Nat → RO) (fun _ _ _ => none) (fun _ _ _ _ => none) (fun _ _ _ _ _ => none) (fun _ _ _ _ => none) (fun _ _ _ _ _ => none) fldQ (fun _ _ _ _ => none) (fun _ _ _ _ _ _ => none) (vw v) P t f
theorem rFieldF_eq (P : Program) (t : TypeId) (f : Nat) : rFieldF P t f = rField P t f := by
  funext v
  cases v with
  | pointer a => cases a with
    | none => rfl
    | some a => obtain ⟨i, o, p⟩ := a; cases p <;> rfl
  | agg cs =>
    obtain ⟨l⟩ := cs
    show fldQ l P t f = _
    unfold fldQ rField
    simp only
    cases fldLay P t f with
    | none => rfl
    | some x =>
      obtain ⟨a, b, c⟩ := x
      show fldV l (a, b, c) = _
      unfold fldV
      simp only [listOf]
      cases partL b c l a <;> rfl
  | func f _ _ => cases f <;> rfl
  | _ => rfl
noncomputable def extT (l : List Value) (ix : Nat) : RO := Option.rec (motive := fun _ => RO) none (fun u => some (u, none)) (nthL l ix)
noncomputable def rExtractF (ix : Nat) (v : Value) : RO :=
  Vw.rec (motive := fun _ => Nat → RO) (fun _ => none) (fun _ _ => none) (fun _ _ _ => none) (fun _ _ => none) (fun _ _ _ => none) (fun _ _ => none) extT (fun _ _ _ _ => none) (vw v) ix
theorem rExtractF_eq (ix : Nat) : rExtractF ix = fun v => rExtract v ix := by
  funext v
  cases v with
  | pointer a => cases a with
    | none => rfl
    | some a => obtain ⟨i, o, p⟩ := a; cases p <;> rfl
  | tuple cs =>
    obtain ⟨l⟩ := cs
    show extT l ix = _
    unfold extT rExtract
    simp only [listOf]
    cases nthL l ix <;> rfl
  | func f _ _ => cases f <;> rfl
  | _ => rfl
/-! ### nil checks -/
noncomputable def rNilF (v : Value) : RO :=
  Vw.rec (motive := fun _ => Value → RO) rNil (fun _ _ => none) (fun _ _ _ => none) (fun _ _ => none) (fun _ _ v => some (v, none)) (fun _ _ => none) (fun _ _ => none) (fun _ _ _ v => some (v, none)) (vw v) v
theorem rNilF_eq : rNilF = rNil := by
  funext v
  cases v with
  | pointer a => cases a with
    | none => rfl
    | some a => obtain ⟨i, o, p⟩ := a; cases p <;> rfl
  | func f _ _ => cases f <;> rfl
  | _ => rfl
/-! ### two operands -/
/-- 0: a comparison or a sum ..; 1: bits; 2: a shift -/
noncomputable def opK (op : BinOp) : Nat := Bool.rec (motive := fun _ => Nat) (Bool.rec (motive := fun _ => Nat) 0 1 (isBits op)) 2 (isShift op)
noncomputable def plS (v : Value) : RO := some (v, none)
noncomputable def ibF (op : BinOp) (k : IntKind) (a b : Int) : RO := Option.rec (motive := fun _ => RO) none plS (intBin op k a b)
theorem intBin_plain {op : BinOp} {k : IntKind} {a b : Int} {v : Value} (h : intBin op k a b = some v) : plain v = true := by
  unfold intBin at h
  split at h <;> first
    | (cases h; done)
    | (injection h with h; subst h; rfl)
    | (split at h <;> first | (cases h; done) | (injection h with h; subst h; rfl))
theorem ibF_eq (op : BinOp) (k : IntKind) (a b : Int) : ibF op k a b = pl (intBin op k a b) := by
  unfold ibF pl
  cases h : intBin op k a b with
  | none => rfl
  | some v => simp only [intBin_plain h]; rfl
noncomputable def biB (op : BinOp) (k : IntKind) (a : Int) (j : IntKind) (b : Int) (P : Program) (t : TypeId) : RO :=
  Nat.rec (motive := fun _ => RO) (Bool.rec (motive := fun _ => RO) none (ibF op k a b) (decide (k = j)))
    (fun n _ => Nat.rec (motive := fun _ => RO) (Bool.rec (motive := fun _ => RO) none (pl (qrun P (Op.intBits op k a b))) (decide (k = j))) (fun _ _ => pl (qrun P (Op.shift op k a j b))) n) (opK op)
noncomputable def biI (op : BinOp) (k : IntKind) (a : Int) (w : Vw) (P : Program) (t : TypeId) : RO :=
  Vw.rec (motive := fun _ => BinOp → IntKind → Int → Program → TypeId → RO) (fun _ _ _ _ _ => none) (fun _ _ _ _ _ _ => none) (fun j b op k a P t => biB op k a j b P t) (fun _ _ _ _ _ _ => none) (fun _ _ _ _ _ _ _ => none) (fun _ _ _ _ _ _ => none) (fun _ _ _ _ _ _ => none) (fun _ _ _ _ _ _ _ _ => none) w op k a P t
noncomputable def rBinF (P : Program) (c : Bool) (op : BinOp) (t : TypeId) (x y : Value) : RO :=
  Vw.rec (motive := fun _ => Program → Bool → BinOp → TypeId → Value → Value → RO) rBin (fun _ => rBin) (fun k a P c op t x y => biI op k a (vw y) P t) (fun _ => rBin) (fun _ _ => rBin) (fun _ => rBin) (fun _ => rBin) (fun _ _ _ => rBin) (vw x) P c op t x y
theorem vw_int {y : Value} {k : IntKind} {n : Int} (h : vw y = .int k n) : y = .int k n := by
  cases y with
  | int k' n' => injection h with h1 h2; rw [h1, h2]
  | pointer a => cases a with
    | none => cases h
    | some a => obtain ⟨i, o, p⟩ := a; cases p <;> cases h
  | func f _ _ => cases f <;> cases h
  | _ => cases h
theorem biB_eq (op : BinOp) (k : IntKind) (a : Int) (j : IntKind) (b : Int) (P : Program) (c : Bool) (t : TypeId) : biB op k a j b P t = rBin P c op t (.int k a) (.int j b) := by
  unfold biB rBin opK
  simp only
  cases isShift op with
  | true => rfl
  | false => cases isBits op with
    | true =>
      show Bool.rec (motive := fun _ => RO) none (pl (qrun P (Op.intBits op k a b))) (decide (k = j)) = _
      cases decide (k = j) <;> rfl
    | false =>
      show Bool.rec (motive := fun _ => RO) none (ibF op k a b) (decide (k = j)) = _
      rw [ibF_eq]
      cases decide (k = j) <;> rfl
theorem rBinF_eq (P : Program) (c : Bool) (op : BinOp) (t : TypeId) : rBinF P c op t = rBin P c op t := by
  funext x y
  cases x with
  | int k a =>
    show biI op k a (vw y) P t = _
    cases y with
    | int j b => exact biB_eq op k a j b P c t
    | pointer a => cases a with
      | none => rfl
      | some a => obtain ⟨i, o, p⟩ := a; cases p <;> rfl
    | func f _ _ => cases f <;> rfl
    | _ => rfl
  | pointer a => cases a with
    | none => rfl
    | some a => obtain ⟨i, o, p⟩ := a; cases p <;> rfl
  | func f _ _ => cases f <;> rfl
  | _ => rfl
end Go.Ev
namespace Go.Ev
open Go Go.RowKit
set_option linter.unusedVariables false
set_option linter.unusedSimpArgs false
/-- All readings. -/
noncomputable def ropX (P : Program) (H : Heap) (tm : Tr Value) (op : Op) : Option (Value × Option Nat) :=
  match op with
  | .lookup t m k ok => op2 tm m k (rLook P H t ok)
  | _ => rop P H tm op
theorem ropX_ok {P : Program} {base : Bas} {N : Nat} {φ : Emb} {H : Heap} {w : World} {tm : Tr Value} {a : Act} (hH : HR base φ H w) (hT : TR N φ tm a) {o : Oper} {r : Value × Option Nat} (h : ropX P H tm o.op = some r) : OOk P φ w a.eval o r := by
  unfold ropX at h
  split at h
  · rename_i t m k ok hop
    obtain ⟨dst, op, ty, pos, after, guard⟩ := o
    simp only at hop
    subst hop
    obtain ⟨v, u, hv, hu, h⟩ := op2_some h
    exact (rLook_ok hH (hT.ev hv) (hT.ev hu) h).op rfl
  · exact rop_ok hH hT h
noncomputable def wop3 (tm : Tr Value) (x y z : Operand) (f : Value → Value → Value → Option (Value × Heap)) : Option (Value × Heap) :=
  match ev tm x with | some v => (match ev tm y with | some u => (match ev tm z with | some t => f v u t | none => none) | none => none) | none => none
theorem wop3_some {tm : Tr Value} {x y z : Operand} {f : Value → Value → Value → Option (Value × Heap)} {r : Value × Heap} (h : wop3 tm x y z f = some r) : ∃ v u t, ev tm x = some v ∧ ev tm y = some u ∧ ev tm z = some t ∧ f v u t = some r := by
  unfold wop3 at h
  split at h <;> try (cases h; done)
  rename_i v hv
  split at h <;> try (cases h; done)
  rename_i u hu
  split at h <;> try (cases h; done)
  rename_i t ht; exact ⟨v, u, t, hv, hu, ht, h⟩
noncomputable def opMakeM (H : Heap) (r : Option Operand) : Option (Value × Heap) := match r with | none => wMakeM H | some _ => none
/-- All writings but calls. -/
noncomputable def wopX (P : Program) (H : Heap) (tm : Tr Value) (op : Op) : Option (Value × Heap) :=
  match op with
  | .makeMap _ r => opMakeM H r
  | .mapUpdate t m k x => wop3 tm m k x (wMapU P H t)
  | .insert t m k x => wop3 tm m k x (wMapU P H t)
  | .range t x => wop1 tm x (wRange P H t)
  | .next it b => wop1 tm it (fun v => wNext H v b)
  | _ => wop P H tm op
theorem wopX_ok {P : Program} {base : Bas} {N : Nat} {φ : Emb} {H : Heap} {w : World} {tm : Tr Value} {a : Act} (hH : HR base φ H w) (hT : TR N φ tm a) {o : Oper} {r : Value × Heap} (h : wopX P H tm o.op = some r) : OWk P base φ H w a.eval o r.1 r.2 := by
  unfold wopX at h
  split at h
  · rename_i t r0 hop
    obtain ⟨dst, op, ty, pos, after, guard⟩ := o
    simp only at hop
    subst hop
    unfold opMakeM at h
    split at h <;> try (cases h; done)
    refine (wMakeM_ok (t := t) hH h).op ?_
    simp only [execOp, Sem.run_bind]
    rfl
  · rename_i t m k x hop
    obtain ⟨dst, op, ty, pos, after, guard⟩ := o
    simp only at hop
    subst hop
    obtain ⟨v, u, y, hv, hu, hy, h⟩ := wop3_some h
    obtain ⟨h0, w', h1, h2, h3⟩ := wMapU_ok hH (hT.ev hv) (hT.ev hu) (hT.ev hy) h
    refine ⟨φ, undef, w', .skip, Ext.refl φ, h1, h2, by rw [h0]; exact .tuple [] [] rfl (by simp), ?_, .inr ⟨rfl, rfl⟩⟩
    simp only [execOp, Sem.run_bind, h3]
    rfl
  · rename_i t m k x hop
    obtain ⟨dst, op, ty, pos, after, guard⟩ := o
    simp only at hop
    subst hop
    obtain ⟨v, u, y, hv, hu, hy, h⟩ := wop3_some h
    obtain ⟨h0, w', h1, h2, h3⟩ := wMapU_ok hH (hT.ev hv) (hT.ev hu) (hT.ev hy) h
    refine ⟨φ, undef, w', .skip, Ext.refl φ, h1, h2, by rw [h0]; exact .tuple [] [] rfl (by simp), ?_, .inr ⟨rfl, rfl⟩⟩
    simp only [execOp, Sem.run_bind, h3]
    rfl
  · rename_i t x hop
    obtain ⟨dst, op, ty, pos, after, guard⟩ := o
    simp only at hop
    subst hop
    obtain ⟨v, hv, h⟩ := wop1_some h
    refine (wRange_ok hH (hT.ev hv) h).op ?_
    simp only [execOp, Sem.run_bind]
    rfl
  · rename_i it b hop
    obtain ⟨dst, op, ty, pos, after, guard⟩ := o
    simp only at hop
    subst hop
    obtain ⟨v, hv, h⟩ := wop1_some h
    refine (wNext_ok (ty := ty) hH (hT.ev hv) h).op ?_
    simp only [execOp, Sem.run_bind]
    rfl
  · exact wop_ok hH hT h
theorem wMapU_am {P : Program} {H : Heap} {t : TypeId} {m k x : Value} {r : Value × Heap} (hW : WF H) (h : wMapU P H t m k x = some r) : WF r.2 ∧ AM H r.2 := by
  unfold wMapU at h
  split at h <;> try (cases h; done)
  split at h <;> try (cases h; done)
  split at h <;> try (cases h; done)
  split at h <;> try (cases h; done)
  rename_i hi
  split at h <;> try (cases h; done)
  · injection h with h; subst h; exact put_am hW hi trivial (fun _ => rfl)
  · injection h with h; subst h; exact put_am hW hi trivial (fun _ => rfl)
theorem wopX_am {P : Program} {H : Heap} {tm : Tr Value} {op : Op} {r : Value × Heap} (hW : WF H) (h : wopX P H tm op = some r) : WF r.2 ∧ AM H r.2 := by
  unfold wopX at h
  split at h
  · unfold opMakeM at h
    split at h <;> try (cases h; done)
    injection h with h; subst h
    exact push_am hW (Nat.le_refl _)
  · obtain ⟨v, u, y, hv, hu, hy, h⟩ := wop3_some h
    exact wMapU_am hW h
  · obtain ⟨v, u, y, hv, hu, hy, h⟩ := wop3_some h
    exact wMapU_am hW h
  · obtain ⟨v, hv, h⟩ := wop1_some h
    unfold wRange at h
    split at h <;> try (cases h; done)
    split at h <;> try (cases h; done)
    injection h with h; subst h
    exact push_am hW (Nat.le_refl _)
  · obtain ⟨v, hv, h⟩ := wop1_some h
    unfold wNext at h
    split at h <;> try (cases h; done)
    split at h <;> try (cases h; done)
    split at h <;> try (cases h; done)
    rename_i hi
    split at h
    · injection h with h; subst h; exact put_am hW hi trivial (fun _ => rfl)
    · injection h with h; subst h; exact ⟨hW, AM.refl H⟩
  · exact wop_am hW h
/-! ## the same, by one look at the operation -/
noncomputable def op1F (tm : Tr Value) (x : Operand) (f : Value → Option (Value × Option Nat)) : Option (Value × Option Nat) := Option.rec (motive := fun _ => Option (Value × Option Nat)) none f (ev tm x)
noncomputable def op2F (tm : Tr Value) (x y : Operand) (f : Value → Value → Option (Value × Option Nat)) : Option (Value × Option Nat) := Option.rec (motive := fun _ => Option (Value × Option Nat)) none (fun v => Option.rec (motive := fun _ => Option (Value × Option Nat)) none (f v) (ev tm y)) (ev tm x)
noncomputable def wop1F (tm : Tr Value) (x : Operand) (f : Value → Option (Value × Heap)) : Option (Value × Heap) := Option.rec (motive := fun _ => Option (Value × Heap)) none f (ev tm x)
noncomputable def wop2F (tm : Tr Value) (x y : Operand) (f : Value → Value → Option (Value × Heap)) : Option (Value × Heap) := Option.rec (motive := fun _ => Option (Value × Heap)) none (fun v => Option.rec (motive := fun _ => Option (Value × Heap)) none (f v) (ev tm y)) (ev tm x)
noncomputable def wop3F (tm : Tr Value) (x y z : Operand) (f : Value → Value → Value → Option (Value × Heap)) : Option (Value × Heap) := Option.rec (motive := fun _ => Option (Value × Heap)) none (fun v => Option.rec (motive := fun _ => Option (Value × Heap)) none (fun u => Option.rec (motive := fun _ => Option (Value × Heap)) none (f v u) (ev tm z)) (ev tm y)) (ev tm x)
noncomputable def mvF (tm : Tr Value) (x : Operand) : RO := Option.rec (motive := fun _ => RO) none plS (ev tm x)
noncomputable def pickV (v : Value) (tm : Tr Value) (a b : Operand) : RO :=
  Vw.rec (motive := fun _ => Tr Value → Operand → Operand → RO) (fun _ _ _ => none) (fun c tm a b => Bool.rec (motive := fun _ => RO) (mvF tm b) (mvF tm a) c) (fun _ _ _ _ _ => none) (fun _ _ _ _ => none) (fun _ _ _ _ _ => none) (fun _ _ _ _ => none) (fun _ _ _ _ => none) (fun _ _ _ _ _ _ => none) (vw v) tm a b
noncomputable def opPickF (tm : Tr Value) (c a b : Operand) : RO := Option.rec (motive := fun _ => RO) none (fun v => pickV v tm a b) (ev tm c)
theorem opPickF_eq (tm : Tr Value) (c a b : Operand) : opPickF tm c a b = opPick tm c a b := by
  unfold opPickF opPick
  cases ev tm c with
  | none => rfl
  | some v =>
    show pickV v tm a b = _
    cases v with
    | bool x => cases x with
      | true => show mvF tm a = _; unfold mvF; cases ev tm a <;> rfl
      | false => show mvF tm b = _; unfold mvF; cases ev tm b <;> rfl
    | pointer x => cases x with
      | none => rfl
      | some x => obtain ⟨i, o, p⟩ := x; cases p <;> rfl
    | func f _ _ => cases f <;> rfl
    | _ => rfl
noncomputable def ropF (op : Op) : Program → Heap → Tr Value → Option (Value × Option Nat) :=
  Op.rec (motive := fun _ => Program → Heap → Tr Value → Option (Value × Option Nat))
    (fun x P H tm => op1F tm x (fun v => some (v, none)))
    (fun x P H tm => op1F tm x (fun v => some (v, none)))
    (fun c a b P H tm => opPickF tm c a b)
    (fun _ _ _ _ => none)
    (fun _ _ _ _ _ => none)
    (fun t ps P H tm => opBuild P tm t ps)
    (fun _ _ _ _ _ _ => none)
    (fun _ _ _ _ _ _ _ => none)
    (fun t x P H tm => op1F tm x (rLoadF P H t))
    (fun _ _ _ _ _ _ => none)
    (fun _ _ _ _ => none)
    (fun _ _ _ _ => none)
    (fun x P H tm => op1F tm x rNilF)
    (fun op t x y u P H tm => op2F tm x y (rBinF P (or (isC x) (isC y)) op t))
    (fun op t x P H tm => op1F tm x (rUn P op))
    (fun s d x P H tm => op1F tm x (rConv P H s d))
    (fun _ _ _ _ _ => none)
    (fun t x P H tm => op1F tm x (opMkI P t))
    (fun fn fs gs P H tm => opFunc tm fn fs gs)
    (fun _ _ _ _ _ => none)
    (fun _ _ _ _ _ => none)
    (fun _ _ _ _ _ _ => none)
    (fun t x lo hi mx P H tm => opSlice P tm t x lo hi mx)
    (fun t x f P H tm => op1F tm x (rFieldAF P t f))
    (fun t x f P H tm => op1F tm x (rFieldF P t f))
    (fun t x i P H tm => op2F tm x i (rIndexA P t))
    (fun t x i P H tm => op2F tm x i (rIndex P t))
    (fun t m k ok P H tm => op2F tm m k (rLook P H t ok))
    (fun _ _ _ _ _ _ _ => none)
    (fun _ _ _ _ _ _ => none)
    (fun _ _ _ _ _ _ _ => none)
    (fun _ _ _ _ _ => none)
    (fun _ _ _ _ _ => none)
    (fun _ _ _ _ => none)
    (fun _ _ _ _ _ _ _ => none)
    (fun x i P H tm => op1F tm x (rExtractF i))
    (fun c P H tm => opCall P tm c)
    (fun _ _ _ _ => none)
    (fun _ _ _ _ => none)
    (fun _ _ _ _ => none)
    (fun _ _ _ _ _ => none)
    (fun _ _ _ _ _ _ => none)
    (fun _ _ _ _ _ => none) op
noncomputable def wopF (op : Op) : Program → Heap → Tr Value → Option (Value × Heap) :=
  Op.rec (motive := fun _ => Program → Heap → Tr Value → Option (Value × Heap))
    (fun _ _ _ _ => none)
    (fun _ _ _ _ => none)
    (fun _ _ _ _ _ _ => none)
    (fun e P H tm => wAlloc P H e)
    (fun e x P H tm => wop1F tm x (wBox H e))
    (fun _ _ _ _ _ => none)
    (fun t n ps P H tm => opBuildS P H tm t n ps)
    (fun t m k x P H tm => wop3F tm m k x (wMapU P H t))
    (fun _ _ _ _ _ => none)
    (fun t a x P H tm => wop2F tm a x (opStore P H t))
    (fun _ _ _ _ => none)
    (fun _ _ _ _ => none)
    (fun _ _ _ _ => none)
    (fun _ _ _ _ _ _ _ _ => none)
    (fun _ _ _ _ _ _ => none)
    (fun s d x P H tm => wop1F tm x (wConv2 P H s d))
    (fun _ _ _ _ _ => none)
    (fun _ _ _ _ _ => none)
    (fun _ _ _ _ _ _ => none)
    (fun t r P H tm => opMakeM H r)
    (fun _ _ _ _ _ => none)
    (fun t l c P H tm => wop2F tm l c (wMakeS P H t))
    (fun _ _ _ _ _ _ _ _ => none)
    (fun _ _ _ _ _ _ => none)
    (fun _ _ _ _ _ _ => none)
    (fun _ _ _ _ _ _ => none)
    (fun _ _ _ _ _ _ => none)
    (fun _ _ _ _ _ _ _ => none)
    (fun t m k x P H tm => wop3F tm m k x (wMapU P H t))
    (fun _ _ _ _ _ _ => none)
    (fun _ _ _ _ _ _ _ => none)
    (fun t x P H tm => wop1F tm x (wRange P H t))
    (fun it b P H tm => wop1F tm it (fun v => wNext H v b))
    (fun _ _ _ _ => none)
    (fun _ _ _ _ _ _ _ => none)
    (fun _ _ _ _ _ => none)
    (fun c P H tm => opWCall P H tm c)
    (fun _ _ _ _ => none)
    (fun _ _ _ _ => none)
    (fun _ _ _ _ => none)
    (fun _ _ _ _ _ => none)
    (fun _ _ _ _ _ _ => none)
    (fun _ _ _ _ _ => none) op
theorem op1F_eq (tm : Tr Value) (x : Operand) (f : Value → Option (Value × Option Nat)) : op1F tm x f = op1 tm x f := by unfold op1F op1; cases ev tm x <;> rfl
theorem op2F_eq (tm : Tr Value) (x y : Operand) (f : Value → Value → Option (Value × Option Nat)) : op2F tm x y f = op2 tm x y f := by
  unfold op2F op2
  cases ev tm x with
  | none => rfl
  | some v => cases ev tm y <;> rfl
theorem wop1F_eq (tm : Tr Value) (x : Operand) (f : Value → Option (Value × Heap)) : wop1F tm x f = wop1 tm x f := by unfold wop1F wop1; cases ev tm x <;> rfl
theorem wop2F_eq (tm : Tr Value) (x y : Operand) (f : Value → Value → Option (Value × Heap)) : wop2F tm x y f = wop2 tm x y f := by
  unfold wop2F wop2
  cases ev tm x with
  | none => rfl
  | some v => cases ev tm y <;> rfl
theorem wop3F_eq (tm : Tr Value) (x y z : Operand) (f : Value → Value → Value → Option (Value × Heap)) : wop3F tm x y z f = wop3 tm x y z f := by
  unfold wop3F wop3
  cases ev tm x with
  | none => rfl
  | some v => cases ev tm y with
    | none => rfl
    | some u => cases ev tm z <;> rfl
theorem ropF_eq (P : Program) (H : Heap) (tm : Tr Value) (op : Op) : ropF op P H tm = ropX P H tm op := by
  cases op with
  | pick c a b => exact opPickF_eq tm c a b
  | load t x => show op1F tm x (rLoadF P H t) = _; rw [rLoadF_eq]; exact op1F_eq _ _ _
  | nilCheck x => show op1F tm x rNilF = _; rw [rNilF_eq]; exact op1F_eq _ _ _
  | binOp op t x y u => show op2F tm x y (rBinF P (or (isC x) (isC y)) op t) = _; rw [rBinF_eq]; exact op2F_eq _ _ _ _
  | fieldAddr t x f => show op1F tm x (rFieldAF P t f) = _; rw [rFieldAF_eq]; exact op1F_eq _ _ _
  | field t x f => show op1F tm x (rFieldF P t f) = _; rw [rFieldF_eq]; exact op1F_eq _ _ _
  | extract x i => show op1F tm x (rExtractF i) = _; rw [rExtractF_eq]; exact op1F_eq _ _ _
  | _ => first | rfl | exact op1F_eq _ _ _ | exact op2F_eq _ _ _ _
theorem wopF_eq (P : Program) (H : Heap) (tm : Tr Value) (op : Op) : wopF op P H tm = wopX P H tm op := by
  cases op <;> first | rfl | exact wop1F_eq _ _ _ | exact wop2F_eq _ _ _ _ | exact wop3F_eq _ _ _ _ _
end Go.Ev
