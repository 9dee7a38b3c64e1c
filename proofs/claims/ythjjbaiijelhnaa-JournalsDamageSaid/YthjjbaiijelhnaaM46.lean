import Derived.Test.YthjjbaiijelhnaaM31
import Derived.Test.YthjjbaiijelhnaaM43
import Derived.Test.YthjjbaiijelhnaaM44
set_option linter.unusedVariables false
set_option linter.unusedSimpArgs false
/- Law 30, JournalsImages: the plain half: what is recovered of any disk; Recover of what holds; Get with its frame. -/
namespace Go.Proofs.Ythjjbaiijelhnaa
open Go.RowKit Go.Lib Go.Maps Go.WideMaps Go.Sort
set_option maxRecDepth 100000
namespace J
theorem takeAll_err {gen : Nat} {b : B} : ∀ (fuel a c : Nat) (m : List (B × B)) (e : Int), takeAll gen b fuel a c m = .error e → e = 16 ∨ e = 4
  | 0, a, c, m, e, h => by cases h
  | fuel + 1, a, c, m, e, h => by
    unfold takeAll at h
    cases ht : take gen c m (b.drop a) (a == 0) with
    | stop => rw [ht] at h; cases h
    | bad x => rw [ht] at h; injection h with h; subst h; exact take_bad_ne ht
    | took n c' m' => rw [ht] at h; exact takeAll_err fuel _ _ _ _ h
theorem recover_err {m : Img} {e : Int} (h0 : m.a0.length ≤ 8388608) (h1 : m.a1.length ≤ 8388608) (h : recover m = .error e) : e = 16 ∨ e = 4 := by
  unfold recover at h
  rw [if_neg (by omega)] at h
  dsimp only at h
  split at h
  · rename_i e' he
    injection h with h; subst h
    exact takeAll_err _ _ _ _ _ he
  · cases h
theorem head_latest {h : B} {a : Nat} (hv : valid h = some (latest, a)) : h.length = 24 ∧ h[7]? = some 64 := by
  have hl := (valid_two hv).1
  refine ⟨hl, ?_⟩
  unfold valid at hv
  split at hv
  · injection hv with hv
    injection hv with hv _
    have h8 : (h.take 8).length = 8 := by rw [List.length_take]; omega
    have := leB_leV (h.take 8)
    rw [h8, hv] at this
    have e : (h.take 8)[7]? = some 64 := by rw [← this]; rfl
    rw [List.getElem?_take_of_lt (by decide)] at e
    exact e
  · cases hv
theorem current_latest {h0 h1 : B} (h : (current h0 h1).1 = latest) : (h0.length = 24 ∧ h0[7]? = some 64) ∨ (h1.length = 24 ∧ h1[7]? = some 64) := by
  unfold current at h
  split at h
  · exact absurd h (by decide)
  · rename_i g a e _
    dsimp only at h; subst h
    exact .inl (head_latest e)
  · rename_i g a _ e
    dsimp only at h; subst h
    exact .inr (head_latest e)
  · rename_i g a g' a' e e'
    split at h
    · dsimp only at h; subst h; exact .inr (head_latest e')
    · dsimp only at h; subst h; exact .inl (head_latest e)
/-- The store that is recovered of a small disk. -/
structure ImgF (m : Img) (s : St) : Prop where
  inv : Inv False s
  hist : Hist False s s.commits [s.now] [0]
  wr : s.writes = []
  opn : s.opn = false
  lg : s.logged = 0
  enc : (encs (values s.now)).length ≤ 2000
  len : s.now.length ≤ 2000
  cm : s.commits < 4294967296
  wok : WOk s
  gen : s.gen = latest → (m.h0.length = 24 ∧ m.h0[7]? = some 64) ∨ (m.h1.length = 24 ∧ m.h1[7]? = some 64)
  com : s.com = s.now
theorem imgF {m : Img} {s : St} (h : recover m = .ok s) (h0 : m.a0.length ≤ 2000) (h1 : m.a1.length ≤ 2000) : ImgF m s := by
  obtain ⟨at_, commits, now, rfl, hh, hle, hr⟩ := recover_ok h
  have hi := inv_recovered (q := False) hr hle (by omega) (by omega) (fun h => h.elim)
  have hal : (m.area (current m.h0 m.h1).2.1).length ≤ 2000 := area_len h0 h1 _
  have hen := reads_encs hr
  have hln := reads_len hr
  have hb0 : (recovered m at_ commits now).base.a0.length ≤ 8388608 := hi.1.disk.a0
  have hb1 : (recovered m at_ commits now).base.a1.length ≤ 8388608 := hi.1.disk.a1
  have hh0 : (recovered m at_ commits now).base.h0.length ≤ 24 := fix_head_len m.h0
  have hh1 : (recovered m at_ commits now).base.h1.length ≤ 24 := fix_head_len m.h1
  refine ⟨hi.1, hist_base hi.1 rfl, rfl, rfl, rfl, ?_, by show now.length ≤ 2000; omega, hi.2, ⟨rfl, fun w hw => (by cases hw), by omega, by omega, hb0, hb1⟩, fun e => current_latest e, rfl⟩
  show (encs (values now)).length ≤ 2000
  have : (encs (values ([] : List (B × B)))).length = 0 := rfl
  omega
/-- .. behind compacting. -/
structure ImgG (s : St) (cm : Nat) (now : List (B × B)) : Prop where
  hist : Hist False s cm [now] [0]
  wok : WOk s
  wr : s.writes.length = 3
  com : s.commits = cm
theorem img_compact {m : Img} {s : St} (h : ImgF m s) (hg : s.gen ≠ latest) : compact s s.now = (compacted s s.now, 0) ∧ ImgG (compacted s s.now) s.commits s.now := by
  have hrl := record_len 1 s.commits (values s.now)
  have he := h.enc
  have hok : compactOk s s.now = true := decide_eq_true ⟨by omega, hg, by rw [h.lg]; omega⟩
  have hic := inv_compacted (b := s.commits) (states := [s.now]) (at_ := [0]) h.inv (by rw [h.com]; exact hok) h.cm
  rw [h.com] at hic
  refine ⟨by unfold compact; rw [hok]; rfl, hic.2.2.1 h.hist, ?_, by rw [hic.2.2.2, h.wr]; rfl, rfl⟩
  have w1 := h.wok.write ⟨1, 1 - s.area, []⟩ ⟨(by show 1 ≤ 2; decide), Nat.sub_le _ _, fun e => absurd rfl e⟩
  have w2 := w1.write ⟨0, 1 - s.area, record 1 s.commits (values s.now)⟩ ⟨Nat.zero_le _, Nat.sub_le _ _, fun _ => by show 0 < (record 1 s.commits (values s.now)).length; omega⟩
  have w3 := (w2.same (s' := { J.write (J.write s ⟨1, 1 - s.area, []⟩) ⟨0, 1 - s.area, record 1 s.commits (values s.now)⟩ with side := 1 - s.side }) rfl rfl rfl).write ⟨2, 1 - s.side, part (s.gen + 1) (1 - s.area) ++ part (s.gen + 1) (1 - s.area)⟩ ⟨Nat.le_refl _, Nat.sub_le _ _, fun _ => by show 0 < (part (s.gen + 1) (1 - s.area) ++ part (s.gen + 1) (1 - s.area)).length; rw [part2_len]; decide⟩
  exact w3.same rfl rfl rfl
theorem img_full {m : Img} {s : St} (h : ImgF m s) (hg : s.gen = latest) : compact s s.now = (s, 9) := by
  have : compactOk s s.now = false := decide_eq_false (fun hh => hh.2.1 hg)
  unfold compact; rw [this]; rfl
theorem img_csmall {m : Img} {s : St} (h : ImgF m s) : CSmall s s.now := by
  have := h.enc
  have := h.cm
  exact ⟨by omega, by omega, fun p hp => by have := (h.inv.fit p hp).2.1; unfold maxLen; omega⟩
/-- What is recovered of any cut. -/
theorem img_holds {s : St} {cm : Nat} {now : List (B × B)} (h : Hist False s cm [now] [0]) (k t : Nat) (hk : k ≤ s.writes.length) (ht : t = 0 ∨ ∃ wr, s.writes[k]? = some wr ∧ t ≤ wr.bs.length) : Img.Holds False (cutImg s k t) cm now := by
  obtain ⟨now', h1, h2⟩ := h.holds k t hk ht
  have e : lastIx [0] (eff s k t) = 0 := by simp [lastIx]
  rw [e] at h1 h2
  simp at h1
  subst h1
  exact h2
end J
/-- Recover of a disk that holds, whatever is known of it. -/
theorem at_recover_q {q : Prop} (w0 : World) (m : J.Img) (commits : Nat) (now : List (J.B × J.B)) (hh : J.Img.Holds q m commits now) (v0 v1 v2 v3 : Value) (w : World) (hb : Below w0.heap.size w0 w) (q0 : Sl w NoM v0 m.h0) (q1 : Sl w NoM v1 m.h1) (q2 : Sl w NoM v2 m.a0) (q3 : Sl w NoM v3 m.a1) (z0 : m.h0.length ≤ 90000000) (z1 : m.h1.length ≤ 90000000) :
    Calls Try.prog 20 #[imgW v0 v1 v2 v3] w fun e w' => ∃ p s, e = .returned (.tuple #[.pointer (some ⟨p, 0, none⟩), .int .i64 0]) ∧ At w0 p s w' ∧ s.now = now ∧ s.commits = commits ∧ Below w.heap.size w w' := by
  refine (at_recover w0 m v0 v1 v2 v3 w hb q0 q1 q2 q3 z0 z1 hh.a0 hh.a1).mono ?_
  intro e w' hr
  obtain ⟨at_, h1, h2, h3, h4⟩ := hh.recover
  unfold RecRes2 at hr
  rw [h1] at hr
  obtain ⟨p, rfl, ha, hb2⟩ := hr
  exact ⟨p, _, rfl, ha, rfl, rfl, hb2⟩
theorem at_getB {w0 w : World} {p : Nat} {s : J.St} (h : At w0 p s w) (k : J.B) (hk : k.length ≤ 1000) (hl : ∀ l, J.look s.now k = some l → l.length ≤ 90000000) :
    Calls Try.prog 22 #[.pointer (some ⟨p, 0, none⟩), .string ⟨k.toArray⟩] w fun e w' => ∃ v, e = .returned (.tuple #[v, .bool (J.look s.now k).isSome]) ∧ Slc w' (· < w.heap.size) v ((J.look s.now k).getD []) ∧ Below w.heap.size w w' := by
  obtain ⟨M, h1, h2, h3⟩ := h
  exact getS_any p M s ⟨k.toArray⟩ w h1 (by rw [enc_size]; unfold maxLen; omega) hl
/-- A store, and pairs beside it. -/
def AtP (w0 : World) (p : Nat) (s : J.St) (v : Value) (l : List (J.B × J.B)) (w : World) : Prop := ∃ M, StoreR w p M s ∧ (∀ k, M k → w0.heap.size ≤ k ∧ k < w.heap.size) ∧ Below w0.heap.size w0 w ∧ Prs w M v l
theorem AtP.at {w0 w : World} {p : Nat} {s : J.St} {v : Value} {l : List (J.B × J.B)} (h : AtP w0 p s v l w) : At w0 p s w := h.elim fun M h => ⟨M, h.1, h.2.1, h.2.2.1⟩
theorem AtP.prs {w0 w : World} {p : Nat} {s : J.St} {v : Value} {l : List (J.B × J.B)} (h : AtP w0 p s v l w) : Prs w NoM v l := h.elim fun M h => h.2.2.2.weak (fun _ h => h.elim)
theorem AtP.below {w0 w w' : World} {p : Nat} {s : J.St} {v : Value} {l : List (J.B × J.B)} (h : AtP w0 p s v l w) (hb : Below w.heap.size w w') : AtP w0 p s v l w' := by
  obtain ⟨M, h1, h2, h3, h4⟩ := h
  exact ⟨M, h1.below hb, fun k hk => ⟨(h2 k hk).1, Nat.lt_of_lt_of_le (h2 k hk).2 hb.size⟩, h3.trans (hb.mono h3.size), h4.step (Step.of_below hb)⟩
theorem atP_compact {w0 w : World} {p : Nat} {s s' : J.St} {v : Value} {l : List (J.B × J.B)} (h : AtP w0 p s v l w) (ho : s.opn = false) (hs : CSmall s s.now) (r : Int) (hr : J.compact s s.now = (s', r)) :
    Calls Try.prog 18 #[.pointer (some ⟨p, 0, none⟩)] w fun e w' => e = .returned (.int .i64 r) ∧ AtP w0 p s' v l w' := by
  obtain ⟨M, h1, h2, h3, h4⟩ := h
  have hp := compactS_any p M s w h1 ho hs
  rw [hr] at hp
  refine hp.mono ?_
  rintro e w' ⟨rfl, M', hst, hs⟩
  refine ⟨rfl, fun k => M' k ∧ k < w'.heap.size, hst.cap, fun k hk => ⟨?_, hk.2⟩, below_tr h3 (hs.below h3.size (fun k hk => (h2 k hk).1)), (h4.step hs).weak (fun k h => h.1)⟩
  by_cases hw : k < w.heap.size
  · exact (h2 k (hs.sub k hw hk.1)).1
  · have := h3.size; omega
end Go.Proofs.Ythjjbaiijelhnaa
