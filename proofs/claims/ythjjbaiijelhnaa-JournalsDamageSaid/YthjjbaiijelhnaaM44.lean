import Derived.Test.YthjjbaiijelhnaaM31
import Derived.Test.YthjjbaiijelhnaaM43
import Derived.Test.YthjjbaiijelhnaaM41
set_option linter.unusedVariables false
set_option linter.unusedSimpArgs false
/- Law 30, JournalsCut: the plain half: what is cut is small, and has no greater generation; what is recovered is kept. -/
namespace Go.Proofs.Ythjjbaiijelhnaa
namespace J
/-- A head that is right, if it is one at all, has no greater generation. -/
def HGen (g : Nat) (h : B) : Prop := ∀ g' a, valid h = some (g', a) → g' ≤ g
theorem current_gen {g : Nat} {h0 h1 : B} (k0 : HGen g h0) (k1 : HGen g h1) : (current h0 h1).1 ≤ g := by
  unfold current
  split
  · exact Nat.zero_le _
  · rename_i e _; exact k0 _ _ e
  · rename_i _ e; exact k1 _ _ e
  · rename_i e e'
    split
    · exact k1 _ _ e'
    · exact k0 _ _ e
theorem HGen.le_current {h0 h1 : B} : HGen (current h0 h1).1 h0 ∧ HGen (current h0 h1).1 h1 := by
  refine ⟨fun g a e => ?_, fun g a e => ?_⟩
  · unfold current
    rw [e]
    cases e' : valid h1 with
    | none => exact Nat.le_refl _
    | some x =>
      obtain ⟨g', a'⟩ := x
      dsimp only
      split
      · dsimp only; omega
      · exact Nat.le_refl _
  · unfold current
    rw [e]
    cases e' : valid h0 with
    | none => exact Nat.le_refl _
    | some x =>
      obtain ⟨g', a'⟩ := x
      dsimp only
      split
      · exact Nat.le_refl _
      · dsimp only; omega
/-- The heads of a disk. -/
structure HImg (g : Nat) (m : Img) : Prop where
  o0 : HeadOk m.h0
  o1 : HeadOk m.h1
  g0 : HGen g m.h0
  g1 : HGen g m.h1
theorem HImg.head {g : Nat} {m : Img} (h : HImg g m) (i : Nat) : HeadOk (m.head i) ∧ HGen g (m.head i) := by
  unfold Img.head; split
  · exact ⟨h.o0, h.g0⟩
  · exact ⟨h.o1, h.g1⟩
theorem HImg.set {g : Nat} {m : Img} (h : HImg g m) (i : Nat) {b : B} (ho : HeadOk b) (hg : HGen g b) : HImg g (m.setHead i b) := by
  unfold Img.setHead; split
  · exact ⟨ho, h.o1, hg, h.g1⟩
  · exact ⟨h.o0, ho, h.g0, hg⟩
theorem HImg.area {g : Nat} {m : Img} (h : HImg g m) (i : Nat) (b : B) : HImg g (m.setArea i b) := by
  unfold Img.setArea; split
  · exact ⟨h.o0, h.o1, h.g0, h.g1⟩
  · exact ⟨h.o0, h.o1, h.g0, h.g1⟩
/-- A write that is right. -/
def WGen (g : Nat) (w : Wr) : Prop := w.kind = 2 → ∃ g' a, w.bs = part g' a ++ part g' a ∧ g' ≤ g ∧ g' ≤ latest ∧ a ≤ 1
theorem hgen_part {g g' a : Nat} (h : g' ≤ g) (hl : g' ≤ latest) (ha : a ≤ 1) : HeadOk (part g' a ++ part g' a) ∧ HGen g (part g' a ++ part g' a) := by
  have hv := valid_part hl ha
  refine ⟨.inr (by rw [hv]; simp), fun x y e => ?_⟩
  rw [hv] at e
  injection e with e; injection e with e1 _
  omega
theorem HeadOk.len {h : B} (ho : HeadOk h) : h.length ≤ 24 := by
  rcases ho with rfl | ho
  · simp
  · cases e : valid h with
    | none => exact absurd e ho
    | some x =>
      obtain ⟨g, a⟩ := x
      have := (valid_two e).1
      omega
theorem HImg.full {g : Nat} {m : Img} (h : HImg g m) (w : Wr) (hw : WGen g w) (hk : w.kind ≤ 2) : HImg g (done m w w.bs.length) := by
  unfold done
  split
  · exact h.area _ _
  · split
    · exact h.area _ _
    · obtain ⟨g', a, e, h1, h2, h3⟩ := hw (by omega)
      have hl := (h.head w.idx).1.len
      have : w.bs.take w.bs.length ++ (m.head w.idx).drop w.bs.length = part g' a ++ part g' a := by
        rw [List.take_length, e, List.drop_eq_nil_of_le (by rw [part2_len]; exact hl), List.append_nil]
      rw [this]
      exact h.set _ (hgen_part h1 h2 h3).1 (hgen_part h1 h2 h3).2
theorem HImg.torn {g : Nat} {m : Img} (h : HImg g m) (w : Wr) (hw : WGen g w) (hk : w.kind ≤ 2) (t : Nat) : HGen g (done m w t).h0 ∧ HGen g (done m w t).h1 := by
  unfold done
  split
  · have := h.area w.idx (m.area w.idx ++ w.bs.take t)
    exact ⟨this.g0, this.g1⟩
  · split
    · have := h.area w.idx ([] : B)
      exact ⟨this.g0, this.g1⟩
    · obtain ⟨g', a, e, h1, h2, h3⟩ := hw (by omega)
      have key : HGen g (w.bs.take t ++ (m.head w.idx).drop t) := by
        intro x y ev
        rw [e] at ev
        rcases torn_head (part g' a) (m.head w.idx) (part_len _ _) (h.head w.idx).1 t (by rw [ev]; simp) with e2 | e2
        · rw [e2] at ev; exact (h.head w.idx).2 _ _ ev
        · rw [e2] at ev; exact (hgen_part h1 h2 h3).2 _ _ ev
      unfold Img.setHead
      split
      · exact ⟨key, h.g1⟩
      · exact ⟨h.g0, key⟩
theorem HImg.fold {g : Nat} : ∀ (l : List Wr) (m : Img), HImg g m → (∀ w ∈ l, WGen g w ∧ w.kind ≤ 2) → HImg g (foldDone m l)
  | [], _, h, _ => h
  | w :: t, m, h, hw => HImg.fold t (done m w w.bs.length) (h.full w (hw w List.mem_cons_self).1 (hw w List.mem_cons_self).2) (fun x hx => hw x (List.mem_cons_of_mem _ hx))
theorem cut_gen {A u0 u : Nat} {s : St} {m : LM} (h : Kept A u0 u s m) (k t : Nat) : (current (cutImg s k t).h0 (cutImg s k t).h1).1 ≤ s.gen := by
  have hb : HImg s.gen s.base := ⟨h.mo.h0.1, h.mo.h1.1, h.mo.h0.2, h.mo.h1.2⟩
  have hf := HImg.fold (s.writes.take k) s.base hb (fun w hw => ⟨fun hk => h.mo.hw w (List.mem_of_mem_take hw) hk, (h.wok.wr w (List.mem_of_mem_take hw)).1⟩)
  unfold cutImg
  split
  · exact current_gen hf.g0 hf.g1
  · rename_i wr e
    split
    · exact current_gen hf.g0 hf.g1
    · have := hf.torn wr (fun hk => h.mo.hw wr (List.mem_of_getElem? e) hk) (h.wok.wr wr (List.mem_of_getElem? e)).1 t
      exact current_gen this.1 this.2
/-- The areas of a disk. -/
theorem done_areas (m : Img) (w : Wr) (t n : Nat) (h0 : m.a0.length ≤ n) (h1 : m.a1.length ≤ n) : (done m w t).a0.length ≤ n + w.bs.length ∧ (done m w t).a1.length ≤ n + w.bs.length := by
  have ht : (w.bs.take t).length ≤ w.bs.length := by rw [List.length_take]; omega
  unfold done Img.setArea Img.setHead Img.area
  split
  · split <;> (refine ⟨?_, ?_⟩ <;> simp only [List.length_append] <;> omega)
  · split
    · split <;> (refine ⟨?_, ?_⟩ <;> simp only [List.length_nil] <;> omega)
    · split <;> (refine ⟨?_, ?_⟩ <;> dsimp only <;> omega)
theorem fold_areas : ∀ (l : List Wr) (m : Img) (n : Nat), m.a0.length ≤ n → m.a1.length ≤ n → (foldDone m l).a0.length ≤ n + (l.map fun w => w.bs.length).sum ∧ (foldDone m l).a1.length ≤ n + (l.map fun w => w.bs.length).sum
  | [], m, n, h0, h1 => ⟨h0, h1⟩
  | w :: t, m, n, h0, h1 => by
    obtain ⟨a, b⟩ := done_areas m w w.bs.length n h0 h1
    have := fold_areas t (done m w w.bs.length) (n + w.bs.length) a b
    simp only [List.map_cons, List.sum_cons]
    show (foldDone (done m w w.bs.length) t).a0.length ≤ _ ∧ (foldDone (done m w w.bs.length) t).a1.length ≤ _
    omega
theorem sum_snoc (l : List Wr) (k : Nat) (wr : Wr) (e : l[k]? = some wr) : ((l.take k).map fun w => w.bs.length).sum + wr.bs.length ≤ (l.map fun w => w.bs.length).sum := by
  obtain ⟨hk, e2⟩ := List.getElem?_eq_some_iff.1 e
  have := List.take_succ_eq_append_getElem hk
  have h2 : ((l.take (k + 1)).map fun w => w.bs.length).sum ≤ (l.map fun w => w.bs.length).sum := sum_take l (k + 1)
  rw [this, List.map_append, List.sum_append, e2] at h2
  simpa using h2
theorem cut_areas {A u0 u : Nat} {s : St} {m : LM} (h : Kept A u0 u s m) (k t : Nat) : (cutImg s k t).a0.length ≤ A + s.logged ∧ (cutImg s k t).a1.length ≤ A + s.logged := by
  have hs := h.wok.sum
  have hf := fold_areas (s.writes.take k) s.base A h.mo.b0 h.mo.b1
  have h2 := sum_take s.writes k
  unfold cutImg
  split
  · omega
  · rename_i wr e
    split
    · omega
    · have h3 := sum_snoc s.writes k wr e
      have := done_areas _ wr t _ hf.1 hf.2
      omega
theorem done_small (m : Img) (w : Wr) (t n : Nat) (h0 : m.h0.length ≤ n) (h1 : m.h1.length ≤ n) : (done m w t).h0.length ≤ n + w.bs.length ∧ (done m w t).h1.length ≤ n + w.bs.length := by
  have ht : (w.bs.take t).length ≤ w.bs.length := by rw [List.length_take]; omega
  unfold done Img.setArea Img.setHead Img.head
  split
  · split <;> (refine ⟨?_, ?_⟩ <;> dsimp only <;> omega)
  · split
    · split <;> (refine ⟨?_, ?_⟩ <;> dsimp only <;> omega)
    · split <;> (refine ⟨?_, ?_⟩ <;> simp only [List.length_append, List.length_drop] <;> omega)
theorem cut_heads {s : St} (h : WOk s) (hl : s.logged ≤ 16777216) (k t : Nat) : (cutImg s k t).h0.length ≤ 90000000 ∧ (cutImg s k t).h1.length ≤ 90000000 := by
  have hs := h.sum
  have hf := fold_size (s.writes.take k) s.base 8388608 h.h0 h.h1 h.a0 h.a1
  have h2 := sum_take s.writes k
  unfold cutImg
  split
  · omega
  · rename_i wr e
    split
    · omega
    · have h3 := sum_snoc s.writes k wr e
      have := done_small _ wr t _ hf.1 hf.2.1
      omega
theorem fix_head_len (h : B) : (if valid h = none then [] else h).length ≤ 24 := (headOk_of h).len
/-- What is recovered of a disk that was cut is kept. -/
theorem kept_recovered {A B' u c commits at_ : Nat} {m : Img} {now : List (B × B)} (hr : Reads (current m.h0 m.h1).1 (m.area (current m.h0 m.h1).2.1) 0 0 [] at_ commits now) (hat : at_ ≤ (m.area (current m.h0 m.h1).2.1).length) (hpos : 0 < (current m.h0 m.h1).1 → 0 < at_)
    (h0 : m.a0.length ≤ B') (h1 : m.a1.length ≤ B') (hB : B' ≤ 8388608) (hg : (current m.h0 m.h1).1 ≤ u) (hc : commits ≤ u) (hgd : Good u now) (_hA : A = c) : Kept B' u u (recovered m at_ commits now) ⟨now, [], false, commits⟩ := by
  have hi := (inv_recovered (q := True) hr hat (by omega) (by omega) (fun _ => hpos)).1
  have hlen : ((m.area (current m.h0 m.h1).2.1).take at_).length ≤ B' := by
    rw [List.length_take]
    have : (m.area (current m.h0 m.h1).2.1).length ≤ B' := by unfold Img.area; split <;> assumption
    omega
  have ha0 : (recovered m at_ commits now).base.a0.length ≤ B' := set_a0 _ _ _ _ h0 hlen
  have ha1 : (recovered m at_ commits now).base.a1.length ≤ B' := set_a1 _ _ _ _ h1 hlen
  have hh0 : (recovered m at_ commits now).base.h0.length ≤ 24 := fix_head_len m.h0
  have hh1 : (recovered m at_ commits now).base.h1.length ≤ 24 := fix_head_len m.h1
  refine ⟨hi, ⟨fun e => (by cases e), hgd.1, fun e => (by cases e), hgd.2, fun e => (by cases e), ?_, Nat.le_trans ha0 (Nat.le_add_right _ _), Nat.le_trans ha1 (Nat.le_add_right _ _), hc, hg, fun e => (by cases e), fun w hw => (by cases hw)⟩,
    ⟨rfl, fun w hw => (by cases hw), by omega, by omega, by omega, by omega⟩, ⟨rfl, rfl, rfl, fun e => (by cases e)⟩, ⟨ha0, ha1, ⟨headOk_of _, fun g a e => ?_⟩, ⟨headOk_of _, fun g a e => ?_⟩, fun w hw => (by cases hw), fun _ => ⟨commits, rfl, fun i w hw => (by have hw : ([] : List Wr)[i]? = some w := hw; simp at hw)⟩⟩⟩
  · show 0 + 0 + 7000 * u ≤ 7000 * u
    omega
  · have e : valid (if valid m.h0 = none then [] else m.h0) = some (g, a) := e
    rw [fit_valid_h] at e
    exact HGen.le_current.1 g a e
  · have e : valid (if valid m.h1 = none then [] else m.h1) = some (g, a) := e
    rw [fit_valid_h] at e
    exact HGen.le_current.2 g a e
theorem good_len {u : Nat} {l : List (B × B)} (h : Good u l) (ha : Asc l) : l.length ≤ 8 := asc_len8 ha h.1
theorem vsum_mem {l : List (B × B)} {p : B × B} (h : p ∈ l) : p.2.length ≤ vsum l := by
  induction l with
  | nil => cases h
  | cons a t ih =>
    simp only [vsum]
    rcases List.mem_cons.1 h with rfl | h
    · omega
    · have := ih h; omega
theorem good_small {u : Nat} {l : List (B × B)} (h : Good u l) (hu : u ≤ 540) : ∀ p ∈ l, p.1.length ≤ 1000 ∧ p.2.length ≤ 100000 := fun p hp => by
  obtain ⟨n, e⟩ := h.1 p hp
  have := (keyL_ok n).2
  have h2 := vsum_mem hp
  have h3 := h.2
  rw [e]
  exact ⟨by omega, by omega⟩
/-- How many writes are on the disk. -/
theorem eff_eq (s : St) (k t : Nat) : (if 0 < t ∧ t = wlen s k then k + 1 else k) = eff s k t := by
  unfold eff wlen
  cases e : s.writes[k]? with
  | none => dsimp only; rw [if_neg (by omega)]
  | some wr => rfl
end J
end Go.Proofs.Ythjjbaiijelhnaa
