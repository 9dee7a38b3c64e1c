import Derived.Test.YtojmckbpafkagaaGreatDoorEB
import Derived.Test.YtojmckbpafkagaaGreatDoorLiftL
/- The worlds of this seat's row lay the variables of packages as the evaluator's runs want them. -/
namespace Go.Ev
open Go Go.RowKit Go.Proofs Go.Proofs.YtojmckbpafkagaaGreatDoor
set_option maxRecDepth 100000
theorem var_heap {P : Program} {w : World} {n : String} {g : Nat} {cs : Array Value} (hg : P.globalNamed n = some g) (h : w.var? P n = some cs) : ∃ (e : TypeId) (fr : Nat × Nat), w.heap[g]? = some (.cells cs e fr) := by
  unfold World.var? at h
  rw [hg, Option.bind_some] at h
  split at h
  · rename_i c e fr hh
    cases h
    exact ⟨e, fr, hh⟩
  · cases h
theorem gs_none : ∀ g l, g ≠ 3 → g ≠ 2 → gs[g]? = some l → l = [] := fun g l h1 h7 hg => by
  have hlt : g < 12 := (List.getElem?_eq_some_iff.1 hg).1
  match g, hlt with
  | 0, _ => cases hg; rfl
  | 1, _ => cases hg; rfl
  | 2, _ => exact absurd rfl h7
  | 3, _ => exact absurd rfl h1
  | 4, _ => cases hg; rfl
  | 5, _ => cases hg; rfl
  | 6, _ => cases hg; rfl
  | 7, _ => cases hg; rfl
  | 8, _ => cases hg; rfl
  | 9, _ => cases hg; rfl
  | 10, _ => cases hg; rfl
  | 11, _ => cases hg; rfl
theorem J_of (w : World) (h : EnvL w) : J w := by
  obtain ⟨hE, h1, h7, hn⟩ := h
  refine ⟨hE, hn, fun g l hg hl => ?_⟩
  by_cases e1 : g = 3
  · subst e1
    obtain ⟨e, f, k⟩ := var_heap (g := 3) (by kernel_rfl) h1
    refine ⟨_, e, f, k, fun j v hv => ?_⟩
    have e : gs[3]? = some (Lib.asciiSpaceTab.map fun z => Value.int .u8 z) := by kernel_rfl
    rw [e] at hg
    cases hg
    simpa using hv
  · by_cases e7 : g = 2
    · subst e7
      obtain ⟨e, f, k⟩ := var_heap (g := 2) (by kernel_rfl) h7
      refine ⟨_, e, f, k, fun j v hv => ?_⟩
      have e : gs[2]? = some [Value.int .u8 36, .int .u8 43, .int .u8 45] := by kernel_rfl
      rw [e] at hg
      cases hg
      simpa using hv
    · exact absurd (gs_none g l e1 e7 hg) hl
end Go.Ev
