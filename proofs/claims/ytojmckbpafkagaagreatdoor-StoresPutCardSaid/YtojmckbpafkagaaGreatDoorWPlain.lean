/- Plain facts on lists of bytes for the layer of words: nothing of the program stands here. -/
import Derived.Lib.SpaceU
import Derived.Lib.Strings
import Derived.Lib.IndexMore
import Derived.Lib.Repeat
import Derived.WalkKit
namespace Go.Proofs.YtojmckbpafkagaaGreatDoor
namespace WP
/-- The index of a word in a list of words, or -1. -/
def inL : List (List UInt8) → List UInt8 → Int
  | [], _ => -1
  | x :: l, s => if x = s then 0 else if inL l s = -1 then -1 else inL l s + 1

theorem inL_ge : ∀ (l : List (List UInt8)) (s : List UInt8), -1 ≤ inL l s
  | [], _ => by simp [inL]
  | x :: l, s => by
    have := inL_ge l s
    unfold inL
    split
    · omega
    · split <;> omega

theorem inL_hit : ∀ (l : List (List UInt8)) (s : List UInt8) (k : Nat) (hk : k < l.length), (∀ j (h : j < k), l[j]'(by omega) ≠ s) → l[k] = s → inL l s = k
  | [], _, k, hk, _, _ => absurd hk (by simp)
  | x :: l, s, 0, _, _, he => by simp at he; simp [inL, he]
  | x :: l, s, k + 1, hk, hn, he => by
    have h0 := hn 0 (by omega)
    have ih := inL_hit l s k (by simp at hk; omega) (fun j h => by have := hn (j + 1) (by omega); simpa using this) (by simpa using he)
    simp at h0
    unfold inL
    rw [if_neg h0, ih, if_neg (by omega)]
    omega

theorem inL_miss : ∀ (l : List (List UInt8)) (s : List UInt8), (∀ j (h : j < l.length), l[j] ≠ s) → inL l s = -1
  | [], _, _ => rfl
  | x :: l, s, hn => by
    have h0 := hn 0 (by simp)
    have ih := inL_miss l s (fun j h => by have := hn (j + 1) (by simp; omega); simpa using this)
    simp at h0
    unfold inL
    rw [if_neg h0, ih, if_pos rfl]

theorem inL_nonneg : ∀ (l : List (List UInt8)) (s : List UInt8), 0 ≤ inL l s ↔ s ∈ l
  | [], s => by simp [inL]
  | x :: l, s => by
    have ih := inL_nonneg l s
    have hg := inL_ge l s
    unfold inL
    by_cases h : x = s
    · simp [h]
    · rw [if_neg h]
      by_cases h1 : inL l s = -1
      · rw [if_pos h1]
        have : ¬ s ∈ l := fun hm => by have := ih.2 hm; omega
        simp [Ne.symm h, this]
      · rw [if_neg h1]
        have : s ∈ l := ih.1 (by omega)
        simp [this]; omega
end WP
end Go.Proofs.YtojmckbpafkagaaGreatDoor
