/- The places at which two storages differ, as plain lists: the program's loop and the law's loop count alike. -/
namespace Go.Proofs.SC
/-- One step of the program's loop: position i, at which the storages differ or not. -/
def step (d : Nat → Bool) (i : Nat) (l : List (Nat × Nat)) : List (Nat × Nat) :=
  if d i = false then l else match l.getLast? with
    | some x => if x.1 + x.2 = i then l.dropLast ++ [(x.1, x.2 + 1)] else l ++ [(i, 1)]
    | none => l ++ [(i, 1)]
def out (d : Nat → Bool) : Nat → List (Nat × Nat)
  | 0 => []
  | i + 1 => step d i (out d i)
theorem mem_step {d : Nat → Bool} {i : Nat} {l : List (Nat × Nat)} {x : Nat × Nat} (h : x ∈ step d i l) : x ∈ l ∨ (d i = true ∧ (x = (i, 1) ∨ ∃ y ∈ l, y.1 + y.2 = i ∧ x = (y.1, y.2 + 1))) := by
  unfold step at h
  split at h
  · exact .inl h
  · rename_i hd
    have hd' : d i = true := by simpa using hd
    split at h
    · rename_i y hy
      have hm : y ∈ l := List.mem_of_getLast? hy
      split at h
      · rename_i he
        rcases List.mem_append.1 h with h | h
        · exact .inl ((List.dropLast_sublist _).mem h)
        · exact .inr ⟨hd', .inr ⟨y, hm, he, by simpa using h⟩⟩
      · rcases List.mem_append.1 h with h | h
        · exact .inl h
        · exact .inr ⟨hd', .inl (by simpa using h)⟩
    · rcases List.mem_append.1 h with h | h
      · exact .inl h
      · exact .inr ⟨hd', .inl (by simpa using h)⟩
/-- What a place of the list says. -/
theorem out_mem (d : Nat → Bool) : ∀ (i : Nat) (x : Nat × Nat), x ∈ out d i → 1 ≤ x.2 ∧ x.1 + x.2 ≤ i ∧ ∀ j, x.1 ≤ j → j < x.1 + x.2 → d j = true
  | 0, x, h => by cases h
  | i + 1, x, h => by
    rcases mem_step h with h | ⟨hd, rfl | ⟨y, hy, he, rfl⟩⟩
    · obtain ⟨h1, h2, h3⟩ := out_mem d i x h
      exact ⟨h1, by omega, h3⟩
    · refine ⟨Nat.le_refl _, Nat.le_refl _, fun j h1 h2 => ?_⟩
      have : j = i := by simp only at h1 h2; omega
      rw [this]; exact hd
    · obtain ⟨h1, h2, h3⟩ := out_mem d i y hy
      refine ⟨by simp only; omega, by simp only; omega, fun j k1 k2 => ?_⟩
      by_cases hj : j = i
      · rw [hj]; exact hd
      · exact h3 j k1 (by simp only at k2; omega)
theorem out_len (d : Nat → Bool) : ∀ (i : Nat), (out d i).length ≤ i
  | 0 => Nat.le_refl _
  | i + 1 => by
    have := out_len d i
    show (step d i (out d i)).length ≤ _
    unfold step
    split
    · omega
    · split
      · rename_i y hy
        split
        · have : out d i ≠ [] := fun e => by rw [e] at hy; cases hy
          have := List.length_pos_iff.2 this
          simp; omega
        · simp; omega
      · simp; omega
/-- Behind a position at which they do not differ, what is there stays. -/
theorem out_keeps (d : Nat → Bool) (j : Nat) (hd : d j = false) : ∀ (m : Nat), ∃ r, out d (j + 1 + m) = out d j ++ r
  | 0 => ⟨[], by simp [out, step, hd]⟩
  | m + 1 => by
    obtain ⟨r, hr⟩ := out_keeps d j hd m
    show ∃ r, step d (j + 1 + m) (out d (j + 1 + m)) = _
    rw [hr]
    unfold step
    split
    · exact ⟨r, rfl⟩
    · split
      · rename_i y hy
        split
        · rename_i he
          cases r with
          | nil =>
            rw [List.append_nil] at hy
            have := (out_mem d j y (List.mem_of_getLast? hy)).2.1
            omega
          | cons a r =>
            refine ⟨(a :: r).dropLast ++ [(y.1, y.2 + 1)], ?_⟩
            rw [List.dropLast_append_of_ne_nil (by simp), List.append_assoc]
        · exact ⟨r ++ [(j + 1 + m, 1)], by rw [List.append_assoc]⟩
      · exact ⟨r ++ [(j + 1 + m, 1)], by rw [List.append_assoc]⟩
theorem out_prefix (d : Nat → Bool) {j N : Nat} (hj : j ≤ N) (h : j < N → d j = false) : ∃ r, out d N = out d j ++ r := by
  rcases Nat.lt_or_ge j N with hlt | hge
  · obtain ⟨r, hr⟩ := out_keeps d j (h hlt) (N - (j + 1))
    rw [show j + 1 + (N - (j + 1)) = N by omega] at hr
    exact ⟨r, hr⟩
  · have : j = N := by omega
    subst this
    exact ⟨[], by simp⟩
def NoEnd (d : Nat → Bool) (i : Nat) : Prop := ∀ x ∈ out d i, x.1 + x.2 ≠ i
theorem out_run (d : Nat → Bool) (i : Nat) (hi : NoEnd d i) : ∀ (n : Nat), (∀ j, i ≤ j → j < i + (n + 1) → d j = true) → out d (i + (n + 1)) = out d i ++ [(i, n + 1)]
  | 0, h => by
    show step d i (out d i) = _
    have hd : d i = true := h i (Nat.le_refl _) (by omega)
    unfold step
    rw [if_neg (by simp [hd])]
    split
    · rename_i y hy
      rw [if_neg (hi y (List.mem_of_getLast? hy))]
    · rfl
  | n + 1, h => by
    have hr := out_run d i hi n (fun j h1 h2 => h j h1 (by omega))
    show step d (i + (n + 1)) (out d (i + (n + 1))) = _
    have hd : d (i + (n + 1)) = true := h _ (by omega) (by omega)
    rw [hr]
    unfold step
    rw [if_neg (by simp [hd])]
    simp
/-- The law's loop: what stands at its head. -/
structure Inv (d : Nat → Bool) (N i k : Nat) : Prop where
  le : i ≤ N
  k : k = (out d i).length
  ne : i < N → d i = true → NoEnd d i
theorem inv_0 (d : Nat → Bool) (N : Nat) : Inv d N 0 0 := ⟨Nat.zero_le _, rfl, fun _ _ x hx => by cases hx⟩
theorem inv_skip {d : Nat → Bool} {N i k : Nat} (h : Inv d N i k) (hi : i < N) (hd : d i = false) : Inv d N (i + 1) k :=
  ⟨hi, by rw [h.k]; simp [out, step, hd], fun _ _ x hx => by
    have : out d (i + 1) = out d i := by simp [out, step, hd]
    rw [this] at hx
    have := (out_mem d i x hx).2.1
    omega⟩
theorem inv_run {d : Nat → Bool} {N i k n : Nat} (h : Inv d N i k) (hn : i + (n + 1) ≤ N) (hd : ∀ j, i ≤ j → j < i + (n + 1) → d j = true) (he : i + (n + 1) < N → d (i + (n + 1)) = false) :
    (out d N)[k]? = some (i, n + 1) ∧ Inv d N (i + (n + 1)) (k + 1) := by
  have hr := out_run d i (h.ne (by omega) (hd i (Nat.le_refl _) (by omega))) n hd
  obtain ⟨r, hp⟩ := out_prefix d hn he
  rw [hr] at hp
  refine ⟨?_, hn, ?_, fun h1 h2 => ?_⟩
  · rw [hp, h.k]; simp
  · rw [hr, h.k]; simp
  · rw [he h1] at h2; cases h2
theorem inv_end {d : Nat → Bool} {N i k : Nat} (h : Inv d N i k) (hi : N ≤ i) : k = (out d N).length := by
  have : i = N := Nat.le_antisymm h.le hi
  rw [h.k, this]
end Go.Proofs.SC
