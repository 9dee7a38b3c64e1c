/- DivisionsRange, the plain half: what Range counts and what the law counts, over paragraphs as pairs (name, section). Nothing of the program stands here. -/
namespace Go.Proofs.YtpcalgoaccmofaaGreatDoor.VR
variable {A : Type} [DecidableEq A]
/-- What a paragraph is for a name (no section given): of the name, of the section. -/
def step (xs : List (A × A)) (n : A) (st : Nat × Nat × Nat) (i : Nat) (x : A × A) : Nat × Nat × Nat :=
  let (f, l, m) := st
  let sec := fun j => (xs[j]?).map (·.2)
  let st1 := if x.2 = n ∧ m = 1 ∧ l + 1 = i ∧ sec l = some n ∧ sec f = some n then (f, i, m) else if x.2 = n ∨ x.1 = n then (i, i, m + 1) else (f, l, m)
  if x.2 = n ∧ x.1 = n then (st1.1, st1.2.1, st1.2.2 + 1) else st1
/-- The same as the law counts: (first, last, how many). -/
def lawS (xs : List (A × A)) (n : A) (st : Nat × Nat × Nat) (i : Nat) (x : A × A) : Nat × Nat × Nat :=
  let (a, b, m) := st
  let st1 := if x.1 = n then (i, i, m + 1) else (a, b, m)
  if x.2 = n then (if i = 0 ∨ (xs[i - 1]?).map (·.2) ≠ some n then (i, i, st1.2.2 + 1) else (st1.1, i, st1.2.2)) else st1
def run (f : Nat × Nat × Nat → Nat → A × A → Nat × Nat × Nat) (xs : List (A × A)) : Nat → Nat × Nat × Nat
  | 0 => (0, 0, 0)
  | i + 1 => match xs[i]? with | some x => f (run f xs i) i x | none => run f xs i
/-- What both say after i paragraphs. -/
inductive Same (xs : List (A × A)) (n : A) (i : Nat) : Nat × Nat × Nat → Nat × Nat × Nat → Prop
  | none (f l a b : Nat) : f = 0 → l = 0 → (∀ j x, j < i → xs[j]? = some x → x.1 ≠ n ∧ x.2 ≠ n) → Same xs n i (f, l, 0) (a, b, 0)
  | name (a : Nat) (x : A × A) : a < i → xs[a]? = some x → x.2 ≠ n → (∀ j y, a < j → j < i → xs[j]? = some y → y.1 ≠ n ∧ y.2 ≠ n) → Same xs n i (a, a, 1) (a, a, 1)
  | sect (a b : Nat) (x y : A × A) : a ≤ b → b < i → xs[a]? = some x → x.2 = n → xs[b]? = some y → y.2 = n → (∀ j z, b < j → j < i → xs[j]? = some z → z.1 ≠ n ∧ z.2 ≠ n) → Same xs n i (a, b, 1) (a, b, 1)
  | many (f l a b m k : Nat) : 2 ≤ m → 2 ≤ k → Same xs n i (f, l, m) (a, b, k)
omit [DecidableEq A] in
theorem prev {xs : List (A × A)} {i : Nat} {x : A × A} (hx : xs[i]? = some x) (h0 : 0 < i) : ∃ y, xs[i - 1]? = some y := by
  have := (List.getElem?_eq_some_iff.1 hx).1
  exact ⟨xs[i - 1], by simp⟩
theorem same_step {xs : List (A × A)} {n : A} {i : Nat} {x : A × A} (hx : xs[i]? = some x) {s t : Nat × Nat × Nat} (h : Same xs n i s t) : Same xs n (i + 1) (step xs n s i x) (lawS xs n t i x) := by
  cases h with
  | none f l a b h1 h2 h3 =>
    subst h1; subst h2
    have hp : i = 0 ∨ (xs[i - 1]?).map (·.2) ≠ some n := by
      rcases Nat.eq_zero_or_pos i with h0 | h0
      · exact .inl h0
      · obtain ⟨y, hy⟩ := prev hx h0
        exact .inr (by rw [hy]; simp [(h3 (i - 1) y (by omega) hy).2])
    by_cases e2 : x.2 = n <;> by_cases e1 : x.1 = n
    · have : step xs n (0, 0, 0) i x = (i, i, 2) := by simp [step, e1, e2]
      rw [this]
      have : lawS xs n (a, b, 0) i x = (i, i, 2) := by simp only [lawS, e1, e2, if_true]; rw [if_pos hp]
      rw [this]; exact .many _ _ _ _ _ _ (Nat.le_refl _) (Nat.le_refl _)
    · have : step xs n (0, 0, 0) i x = (i, i, 1) := by simp [step, e1, e2]
      rw [this]
      have : lawS xs n (a, b, 0) i x = (i, i, 1) := by simp only [lawS, e1, e2, if_true, if_false]; rw [if_pos hp]
      rw [this]
      exact .sect i i x x (Nat.le_refl _) (Nat.lt_succ_self _) hx e2 hx e2 (fun j z h1 h2 _ => by omega)
    · have : step xs n (0, 0, 0) i x = (i, i, 1) := by simp [step, e1, e2]
      rw [this]
      have : lawS xs n (a, b, 0) i x = (i, i, 1) := by simp [lawS, e1, e2]
      rw [this]
      exact .name i x (Nat.lt_succ_self _) hx e2 (fun j z h1 h2 _ => by omega)
    · have : step xs n (0, 0, 0) i x = (0, 0, 0) := by simp [step, e1, e2]
      rw [this]
      have : lawS xs n (a, b, 0) i x = (a, b, 0) := by simp [lawS, e1, e2]
      rw [this]
      refine .none 0 0 a b rfl rfl fun j z hj hz => ?_
      by_cases hji : j = i
      · subst hji; rw [hx] at hz; injection hz with hz; subst hz; exact ⟨e1, e2⟩
      · exact h3 j z (by omega) hz
  | name a y ha hy hs hno =>
    have hl : ¬ ((xs[a]?).map (·.2) = some n) := by rw [hy]; simpa using hs
    have hp : i = 0 ∨ (xs[i - 1]?).map (·.2) ≠ some n := by
      right
      by_cases hai : a = i - 1
      · rw [← hai]; exact hl
      · obtain ⟨z, hz⟩ := prev hx (by omega)
        rw [hz]; simp [(hno (i - 1) z (by omega) (by omega) hz).2]
    by_cases e2 : x.2 = n <;> by_cases e1 : x.1 = n
    · have : step xs n (a, a, 1) i x = (i, i, 3) := by simp [step, e1, e2, hl]
      rw [this]
      have : lawS xs n (a, a, 1) i x = (i, i, 3) := by simp only [lawS, e1, e2, if_true]; rw [if_pos hp]
      rw [this]; exact .many _ _ _ _ _ _ (by omega) (by omega)
    · have : step xs n (a, a, 1) i x = (i, i, 2) := by simp [step, e1, e2, hl]
      rw [this]
      have : lawS xs n (a, a, 1) i x = (i, i, 2) := by simp only [lawS, e1, e2, if_true, if_false]; rw [if_pos hp]
      rw [this]; exact .many _ _ _ _ _ _ (by omega) (by omega)
    · have : step xs n (a, a, 1) i x = (i, i, 2) := by simp [step, e1, e2]
      rw [this]
      have : lawS xs n (a, a, 1) i x = (i, i, 2) := by simp [lawS, e1, e2]
      rw [this]; exact .many _ _ _ _ _ _ (by omega) (by omega)
    · have : step xs n (a, a, 1) i x = (a, a, 1) := by simp [step, e1, e2]
      rw [this]
      have : lawS xs n (a, a, 1) i x = (a, a, 1) := by simp [lawS, e1, e2]
      rw [this]
      refine .name a y (by omega) hy hs fun j z h1 h2 hz => ?_
      by_cases hji : j = i
      · subst hji; rw [hx] at hz; injection hz with hz; subst hz; exact ⟨e1, e2⟩
      · exact hno j z h1 (by omega) hz
  | sect a b y z hab hb hy hys hz hzs hno =>
    have hl : (xs[b]?).map (·.2) = some n := by rw [hz]; simp [hzs]
    have hf : (xs[a]?).map (·.2) = some n := by rw [hy]; simp [hys]
    by_cases e2 : x.2 = n <;> by_cases e1 : x.1 = n
    · have h2 : 2 ≤ (step xs n (a, b, 1) i x).2.2 := by
        simp only [step, e1, e2, true_and, true_or, if_true]
        split <;> simp
      have h3 : 2 ≤ (lawS xs n (a, b, 1) i x).2.2 := by
        simp only [lawS, e1, e2, if_true]
        split <;> simp
      exact .many _ _ _ _ _ _ h2 h3
    · by_cases hbi : b + 1 = i
      · have : step xs n (a, b, 1) i x = (a, i, 1) := by simp [step, e1, e2, hbi, hl, hf]
        rw [this]
        have : lawS xs n (a, b, 1) i x = (a, i, 1) := by
          have hq : ¬ (i = 0 ∨ (xs[i - 1]?).map (·.2) ≠ some n) := by
            rw [show i - 1 = b by omega, hl]; simp; omega
          simp only [lawS, e1, e2, if_true, if_false]; rw [if_neg hq]
        rw [this]
        exact .sect a i y x (by omega) (Nat.lt_succ_self _) hy hys hx e2 (fun j z h1 h2 _ => by omega)
      · have : step xs n (a, b, 1) i x = (i, i, 2) := by simp [step, e1, e2, hbi]
        rw [this]
        have : lawS xs n (a, b, 1) i x = (i, i, 2) := by
          have hq : i = 0 ∨ (xs[i - 1]?).map (·.2) ≠ some n := by
            obtain ⟨u, hu⟩ := prev hx (by omega)
            right; rw [hu]; simp [(hno (i - 1) u (by omega) (by omega) hu).2]
          simp only [lawS, e1, e2, if_true, if_false]; rw [if_pos hq]
        rw [this]; exact .many _ _ _ _ _ _ (by omega) (by omega)
    · have : step xs n (a, b, 1) i x = (i, i, 2) := by simp [step, e1, e2]
      rw [this]
      have : lawS xs n (a, b, 1) i x = (i, i, 2) := by simp [lawS, e1, e2]
      rw [this]; exact .many _ _ _ _ _ _ (by omega) (by omega)
    · have : step xs n (a, b, 1) i x = (a, b, 1) := by simp [step, e1, e2]
      rw [this]
      have : lawS xs n (a, b, 1) i x = (a, b, 1) := by simp [lawS, e1, e2]
      rw [this]
      refine .sect a b y z hab (by omega) hy hys hz hzs fun j u h1 h2 hu => ?_
      by_cases hji : j = i
      · subst hji; rw [hx] at hu; injection hu with hu; subst hu; exact ⟨e1, e2⟩
      · exact hno j u h1 (by omega) hu
  | many f l a b m k hm hk =>
    have h2 : 2 ≤ (step xs n (f, l, m) i x).2.2 := by
      simp only [step]
      split <;> split <;> (try split) <;> simp <;> omega
    have h3 : 2 ≤ (lawS xs n (a, b, k) i x).2.2 := by
      simp only [lawS]
      split <;> split <;> (try split) <;> simp <;> omega
    exact .many _ _ _ _ _ _ h2 h3
theorem same_run (xs : List (A × A)) (n : A) : ∀ i, Same xs n i (run (step xs n) xs i) (run (lawS xs n) xs i) ∨ xs.length < i
  | 0 => .inl (.none 0 0 0 0 rfl rfl fun j x hj _ => by omega)
  | i + 1 => by
    rcases same_run xs n i with h | h
    · cases hx : xs[i]? with
      | none => exact .inr (by have := List.getElem?_eq_none_iff.1 hx; omega)
      | some x =>
        left
        simp only [run, hx]
        exact same_step hx h
    · exact .inr (by omega)
/-- RANGE AND THE LAW AGREE: as many (none, one, more), and where there is one: the same first and last. -/
theorem agree (xs : List (A × A)) (n : A) : let s := run (step xs n) xs xs.length; let t := run (lawS xs n) xs xs.length
    (s.2.2 = 0 ∧ t.2.2 = 0) ∨ (s.2.2 = 1 ∧ t.2.2 = 1 ∧ s.1 = t.1 ∧ s.2.1 = t.2.1) ∨ (2 ≤ s.2.2 ∧ 2 ≤ t.2.2) := by
  intro s t
  rcases same_run xs n xs.length with h | h
  · change Same xs n xs.length s t at h
    generalize s = s at h
    generalize t = t at h
    cases h with
    | none => exact .inl ⟨rfl, rfl⟩
    | name => exact .inr (.inl ⟨rfl, rfl, rfl, rfl⟩)
    | sect => exact .inr (.inl ⟨rfl, rfl, rfl, rfl⟩)
    | many f l a b m k hm hk => exact .inr (.inr ⟨hm, hk⟩)
  · omega
end Go.Proofs.YtpcalgoaccmofaaGreatDoor.VR
