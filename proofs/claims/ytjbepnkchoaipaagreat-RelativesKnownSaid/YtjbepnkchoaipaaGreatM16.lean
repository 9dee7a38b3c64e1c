import Derived.Test.YtjbepnkchoaipaaGreatM15
import Derived.Test.YtjbepnkchoaipaaGreatM00
set_option linter.unusedVariables false
set_option linter.unusedSimpArgs false
/- Contract: take, every case. -/
namespace Go.Proofs.YtjbepnkchoaipaaGreat
open Go.RowKit Go.Lib Go.Maps Go.WideMaps
set_option maxRecDepth 100000
namespace J
theorem changesOf_len : ∀ (n : Nat) (b : B) (L : List Chg), b.length ≤ n → changesOf b = some L → L.length ≤ b.length := by
  intro n
  induction n with
  | zero =>
    intro b L hb h
    obtain rfl : b = [] := List.eq_nil_of_length_eq_zero (by omega)
    rw [changesOf_nil] at h
    injection h with h; subst h; simp
  | succ n ih =>
    intro b L hb h
    by_cases h0 : b = []
    · subst h0; rw [changesOf_nil] at h; injection h with h; subst h; simp
    · cases hc : chgOf b with
      | none => rw [changesOf_none h0 hc] at h; cases h
      | some cr =>
        obtain ⟨c, r⟩ := cr
        rw [changesOf_some h0 hc] at h
        have hl := chgOf_less hc
        cases hr : changesOf r with
        | none => rw [hr] at h; cases h
        | some L' =>
          rw [hr] at h
          injection h with h
          subst h
          have := ih r L' (by omega) hr
          simp; omega
end J
/-- What take does. -/
def TakeRes2 (w : World) (p : Nat) (M : Nat → Prop) (s : J.St) (l : List UInt8) (first : Bool) (e : Ending) (w' : World) : Prop :=
  match J.take s.gen s.commits s.now l first with
  | .stop => e = .returned (.tuple #[.int .i64 0, .int .i64 0]) ∧ w = w'
  | .bad er => e = .returned (.tuple #[.int .i64 0, .int .i64 er]) ∧ ∃ M', Step M M' w w'
  | .took n c now => e = .returned (.tuple #[.int .i64 (n : Nat), .int .i64 0]) ∧ ∃ M', StoreQ w' p M' { s with commits := c, now := now } ∧ Step M M' w w'
theorem take_all (p : Nat) (M : Nat → Prop) (s : J.St) (A : Option Addr) (n c : Nat) (l : List UInt8) (first : Bool) (w : World) (M0 : Nat → Prop) (hst : StoreQ w p M s) (h : By w M0 A n l) (hc : n ≤ c) (hnm : n ≤ 90000000) (hcmm : s.commits ≤ 5000000000) (hLs : s.now.length + n ≤ 90000000) :
    Calls Tryz.prog 58 #[.pointer (some ⟨p, 0, none⟩), .slice A n c, .bool first] w (TakeRes2 w p M s l first) := by
  have hl : l.length = n := h.1
  by_cases h9 : n < 9
  · refine (take_short p A n c l first w M0 h h9).mono ?_
    rintro e w' ⟨rfl, rfl⟩
    unfold TakeRes2
    rw [take_stop1 (by omega)]
    exact ⟨rfl, rfl⟩
  · by_cases hs : (n : Int) - 13 < (J.leV ((l.take 9).drop 5) : Nat)
    · refine (take_part p A n c l first w M0 h hc (by omega) hnm hs).mono ?_
      rintro e w' ⟨rfl, rfl⟩
      unfold TakeRes2
      rw [take_stop2 (by rw [hl]; exact hs)]
      exact ⟨rfl, rfl⟩
    · refine (take_any p M s A n c l first w M0 hst h hc (by omega) hnm _ rfl (by omega) hcmm (fun L hL => ?_)).mono ?_
      · have := J.changesOf_len _ _ L (Nat.le_refl _) hL
        rw [List.length_drop, List.length_take] at this
        omega
      · intro e w' ht
        unfold TakeRes at ht
        unfold TakeRes2
        split at ht
        · exact ht.elim
        · rename_i h; rw [h]; exact ht
        · rename_i h; rw [h]; exact ht
end Go.Proofs.YtjbepnkchoaipaaGreat
/- Recover: the plain half. -/
namespace Go.Proofs.YtjbepnkchoaipaaGreat
namespace J
theorem chgOf_len {b : B} {c : Chg} {r : B} (h : chgOf b = some (c, r)) : c.len + r.length ≤ b.length := by
  unfold chgOf at h
  split at h
  · cases h
  · dsimp only at h
    split at h
    · cases h
    · split at h
      · injection h with h; injection h with h1 h2; subst h1 h2; simp [Chg.len]; omega
      · split at h
        · cases h
        · rename_i h3; injection h with h; injection h with h1 h2; subst h1 h2
          simp only [List.length_drop] at h3
          simp only [Chg.len, List.length_drop, List.length_take, Bool.false_eq_true, if_false]
          omega
theorem changesOf_encs_le : ∀ (n : Nat) (b : B) (L : List Chg), b.length ≤ n → changesOf b = some L → (encs L).length ≤ b.length := by
  intro n
  induction n with
  | zero =>
    intro b L hb h
    obtain rfl : b = [] := List.eq_nil_of_length_eq_zero (by omega)
    rw [changesOf_nil] at h
    injection h with h; subst h; simp [encs]
  | succ n ih =>
    intro b L hb h
    by_cases h0 : b = []
    · subst h0; rw [changesOf_nil] at h; injection h with h; subst h; simp [encs]
    · cases hc : chgOf b with
      | none => rw [changesOf_none h0 hc] at h; cases h
      | some cr =>
        obtain ⟨c, r⟩ := cr
        rw [changesOf_some h0 hc] at h
        have hl := chgOf_less hc
        have hl2 := chgOf_len hc
        cases hr : changesOf r with
        | none => rw [hr] at h; cases h
        | some L' =>
          rw [hr] at h
          injection h with h
          subst h
          have := ih r L' (by omega) hr
          show (encs (c :: L')).length ≤ _
          rw [encs_cons]; omega
theorem applyAll_encs : ∀ (L : List Chg) (m m' : List (B × B)), applyAll m L = some m' → (encs (values m')).length ≤ (encs (values m)).length + (encs L).length
  | [], m, m', h => by injection h with h; subst h; simp
  | c :: t, m, m', h => by
    rw [applyAll_cons] at h
    rw [encs_cons]
    have hd := encs_del m c.key
    have hi := encs_ins m c.key c.val
    split at h
    · split at h
      · cases h
      · have := applyAll_encs t _ m' h; omega
    · rename_i hg
      have := applyAll_encs t _ m' h
      have e : c.len = 7 + c.key.length + c.val.length := by unfold Chg.len; simp [hg]; omega
      omega
theorem take_encs {gen commits : Nat} {now : List (B × B)} {b : B} {first : Bool} {n c' : Nat} {now' : List (B × B)} (h : take gen commits now b first = .took n c' now') : (encs (values now')).length ≤ (encs (values now)).length + n := by
  obtain ⟨h1, _, ⟨L, h2, _, h3⟩, h4, _⟩ := take_took.1 h
  have := changesOf_encs_le _ _ L (Nat.le_refl _) h2
  rw [List.length_drop, List.length_take] at this
  have := applyAll_encs L now now' h3
  omega
theorem reads_encs {gen : Nat} {b : B} {a c a' c' : Nat} {m m' : List (B × B)} (h : Reads gen b a c m a' c' m') : (encs (values m')).length + a ≤ (encs (values m)).length + a' := by
  induction h with
  | refl => exact Nat.le_refl _
  | step h t ih => have := take_encs h; omega
theorem reads_len {gen : Nat} {b : B} {a' c' : Nat} {m' : List (B × B)} (h : Reads gen b 0 0 [] a' c' m') : m'.length ≤ a' := by
  have h1 := reads_encs h
  have h2 := values_len m'
  have h3 : (encs (values ([] : List (B × B)))).length = 0 := rfl
  omega
theorem take_bad_ne {gen commits : Nat} {now : List (B × B)} {b : B} {first : Bool} {e : Int} (h : take gen commits now b first = .bad e) : e = 16 ∨ e = 4 := by
  unfold take at h
  split at h
  · cases h
  · dsimp only at h
    split at h
    · injection h with h; exact .inl h.symm
    · cases hL : changesOf ((b.take (9 + leV ((b.take 9).drop 5))).drop 9) with
      | none => rw [hL] at h; injection h with h; exact .inr h.symm
      | some L =>
        rw [hL] at h
        dsimp only at h
        cases ha : applyAll now L with
        | none => rw [ha] at h; dsimp only at h; rw [ite_self] at h; injection h with h; exact .inr h.symm
        | some now' =>
          rw [ha] at h
          dsimp only at h
          by_cases hk : (if first = true ∧ 0 < gen then b.headD 0 = 1 else b.headD 0 = 0 ∧ leV ((b.take 5).drop 1) = commits + 1)
          · rw [if_neg (not_not_intro hk)] at h; cases h
          · rw [if_pos hk] at h; injection h with h; exact .inr h.symm
theorem recover_stop {m : Img} {at_ commits : Nat} {now : List (B × B)} (h0 : m.a0.length ≤ 8388608) (h1 : m.a1.length ≤ 8388608) (h : Reads (current m.h0 m.h1).1 (m.area (current m.h0 m.h1).2.1) 0 0 [] at_ commits now)
    (hs : take (current m.h0 m.h1).1 commits now ((m.area (current m.h0 m.h1).2.1).drop at_) (at_ == 0) = .stop) : recover m = .ok (recovered m at_ commits now) := by
  unfold J.recover
  rw [if_neg (by omega)]
  dsimp only
  rw [takeAll_reads h hs _ (by omega) (Nat.zero_le _)]
  rfl
theorem recover_bad {m : Img} {at_ commits : Nat} {now : List (B × B)} {e : Int} (h0 : m.a0.length ≤ 8388608) (h1 : m.a1.length ≤ 8388608) (h : Reads (current m.h0 m.h1).1 (m.area (current m.h0 m.h1).2.1) 0 0 [] at_ commits now)
    (hs : take (current m.h0 m.h1).1 commits now ((m.area (current m.h0 m.h1).2.1).drop at_) (at_ == 0) = .bad e) : recover m = .error e := by
  unfold J.recover
  rw [if_neg (by omega)]
  dsimp only
  rw [takeAll_bad h hs _ (by omega) (Nat.zero_le _)]
theorem recover_big {m : Img} (h : 8388608 < max m.a0.length m.a1.length) : recover m = .error 3 := by
  unfold J.recover
  rw [if_pos h]
theorem area_len {m : Img} {n : Nat} (h0 : m.a0.length ≤ n) (h1 : m.a1.length ≤ n) (i : Nat) : (m.area i).length ≤ n := by unfold Img.area; split <;> assumption
end J
theorem hd_len {h : J.B} (hv : J.valid h ≠ none) : h.length = 24 := by
  cases e : J.valid h with
  | none => exact absurd e hv
  | some x => exact (J.valid_two (g := x.1) (a := x.2) e).1
theorem hd_small (h : J.B) : (if J.valid h = none then [] else h).length ≤ 8388608 := by
  split
  · simp
  · rename_i hv; rw [hd_len hv]; omega
theorem ok_recovered {m : J.Img} {at_ commits : Nat} {now : List (J.B × J.B)} (h0 : m.a0.length ≤ 8388608) (h1 : m.a1.length ≤ 8388608) (h : J.Reads (J.current m.h0 m.h1).1 (m.area (J.current m.h0 m.h1).2.1) 0 0 [] at_ commits now) : Ok (J.recovered m at_ commits now) := by
  have hca := J.current_area m.h0 m.h1
  have hal := J.area_len h0 h1 (J.current m.h0 m.h1).2.1
  have hle := h.le.2 (Nat.zero_le _)
  have hen := J.reads_encs h
  have hz : (J.encs (J.values ([] : List (J.B × J.B)))).length = 0 := rfl
  have hfit := h.fit J.fit_nil J.asc_nil (by omega)
  have ht : ((m.area (J.current m.h0 m.h1).2.1).take at_).length ≤ 8388608 := by rw [List.length_take]; omega
  have hz1 : (J.recovered m at_ commits now).logged = 0 := rfl
  have hz2 : (J.recovered m at_ commits now).changes = [] := rfl
  refine ⟨Nat.zero_le _, ?_, hca.2.1, hca.1, hca.2.2, Nat.zero_le _, Nat.le_refl _, Nat.le_refl _, (fun e => by cases e), fun _ => rfl, ?_, ?_, ?_, ?_, ?_, ?_⟩
  · show commits ≤ 4294967296 + 0
    omega
  · exact J.set_a0 _ _ _ _ h0 ht
  · exact J.set_a1 _ _ _ _ h1 ht
  · exact hd_small m.h0
  · exact hd_small m.h1
  · show (J.encs (J.values now)).length ≤ 8388608 + 0 + 0
    omega
  · show 0 ≤ _
    omega
end Go.Proofs.YtjbepnkchoaipaaGreat
