/- Slices of bytes that are only read: what they hold; frames: what may have turned. -/
import Derived.Test.YtojmckbpafkagaaGreatDoorBase
import Derived.Test.YtojmckbpafkagaaGreatDoorJModel
import Derived.Below
import Derived.Laws.OwnMore
import Derived.Deep.AppendLies
import Derived.Deep.Draws
import Derived.Maps.AppendAt
import Derived.RegionTactic
import Derived.OwnWalk
set_option linter.unusedVariables false
set_option linter.unusedSimpArgs false
namespace Go.Proofs.YtojmckbpafkagaaGreatDoor
open Go.RowKit
set_option maxRecDepth 100000

theorem block_of_add (a : Addr) (n : Nat) : (a.add n).block = a.block := by unfold Addr.add; split <;> rfl
theorem add_of_add (a : Addr) (i j : Nat) : (a.add i).add j = a.add (i + j) := by
  unfold Addr.add
  by_cases hi : i = 0 <;> by_cases hj : j = 0 <;> simp [hi, hj, Nat.add_assoc]

/-- A byte as a value. -/
abbrev u8 (b : UInt8) : Value := .int .u8 (b.toNat : Int)
def u8s (l : List UInt8) : List Value := l.map u8
theorem u8s_len (l : List UInt8) : (u8s l).length = l.length := by simp [u8s]
theorem u8s_app (a b : List UInt8) : u8s (a ++ b) = u8s a ++ u8s b := by simp [u8s]
theorem u8s_get (l : List UInt8) (j : Nat) (h : j < l.length) : (u8s l)[j]? = some (u8 l[j]) := by simp [u8s, h]

/-- w' is w, but for the blocks of M, and new ones; what is in M' is new or was in M. -/
structure Step (M M' : Nat → Prop) (w w' : World) : Prop where
  os : w'.os = w.os
  tape : w'.tape = w.tape
  output : w'.output = w.output
  size : w.heap.size ≤ w'.heap.size
  block : ∀ k, k < w.heap.size → ¬ M k → w'.heap[k]? = w.heap[k]?
  sub : ∀ k, k < w.heap.size → M' k → M k
theorem Step.trans {M M' M'' : Nat → Prop} {a b c : World} (h : Step M M' a b) (k : Step M' M'' b c) : Step M M'' a c :=
  ⟨k.os.trans h.os, k.tape.trans h.tape, k.output.trans h.output, Nat.le_trans h.size k.size,
    fun i hi hn => (k.block i (Nat.lt_of_lt_of_le hi h.size) (fun h' => hn (h.sub i hi h'))).trans (h.block i hi hn),
    fun i hi hm => h.sub i hi (k.sub i (Nat.lt_of_lt_of_le hi h.size) hm)⟩
theorem Step.refl (M : Nat → Prop) (w : World) : Step M M w w := ⟨rfl, rfl, rfl, Nat.le_refl _, fun _ _ _ => rfl, fun _ _ h => h⟩
theorem Step.of_below {M : Nat → Prop} {w w' : World} (h : Below w.heap.size w w') : Step M M w w' :=
  ⟨h.os, h.tape, h.output, h.size, fun k hk _ => h.block k hk, fun _ _ h => h⟩
theorem Step.of_grown {M : Nat → Prop} {w w' : World} {row : Option Nat} (h : w.grownBy w' row) (hr : ∀ k, row = some k → k < w.heap.size → M k) : Step M M w w' :=
  ⟨h.os, h.tape, h.output, h.size, fun k hk hn => h.block k hk (fun e => hn (hr k e.symm hk)), fun _ _ h => h⟩
theorem Step.below {M M' : Nat → Prop} {w w' : World} {B : Nat} (h : Step M M' w w') (hB : B ≤ w.heap.size) (hM : ∀ k, M k → B ≤ k) : Below B w w' :=
  ⟨h.os, h.tape, h.output, h.size, fun k hk => h.block k (Nat.lt_of_lt_of_le hk hB) (fun hm => absurd (hM k hm) (by omega))⟩
theorem Step.cell {M M' : Nat → Prop} {w w' : World} (h : Step M M' w w') {a : Addr} (ha : a.block < w.heap.size) (hM : ¬ M a.block) : w'.cell? a = w.cell? a :=
  World.cell?_of_block (h.block _ ha hM)

/-- A slice of n bytes at A reads as l; its block is not in M. -/
def By (w : World) (M : Nat → Prop) (A : Option Addr) (n : Nat) (l : List UInt8) : Prop :=
  l.length = n ∧ (0 < n → ∃ b o, A = some ⟨b, o, none⟩ ∧ b < w.heap.size ∧ ¬ M b ∧ ∀ j (h : j < l.length), w.cell? ⟨b, o + j, none⟩ = some (u8 l[j]))
abbrev NoM : Nat → Prop := fun _ => False
section
variable {w w' : World} {M M' : Nat → Prop} {A : Option Addr} {n : Nat} {l : List UInt8}
theorem By.nil_ : By w M A 0 [] := ⟨rfl, fun h => absurd h (by omega)⟩
theorem By.step (h : By w M A n l) (hs : Step M M' w w') : By w' M' A n l :=
  ⟨h.1, fun hn => by
    obtain ⟨b, o, e, hb, hM, hc⟩ := h.2 hn
    exact ⟨b, o, e, Nat.lt_of_lt_of_le hb hs.size, fun hm => hM (hs.sub b hb hm), fun j hj => (hs.cell (a := ⟨b, o + j, none⟩) hb hM).trans (hc j hj)⟩⟩
theorem By.below (h : By w M A n l) (hb : Below w.heap.size w w') : By w' M A n l := h.step (Step.of_below hb)
theorem By.noM (h : By w M A n l) : By w NoM A n l :=
  ⟨h.1, fun hn => by
    obtain ⟨b, o, e, hb, _, hc⟩ := h.2 hn
    exact ⟨b, o, e, hb, fun h => h, hc⟩⟩
theorem By.drewN (h : By w M A n l) (k : Nat) : By (w.drewN k) M A n l := h
theorem By.drew (h : By w M A n l) : By w.drew M A n l := h
theorem By.alloc (h : By w M A n l) (o : Obj) : By (w.alloc o) M A n l := h.below ((Below.refl _ _).alloc (Nat.le_refl _) _)
theorem By.cell (h : By w M A n l) {k : Nat} (hk : k < n) : ∃ b o, A = some ⟨b, o, none⟩ ∧ b < w.heap.size ∧ ¬ M b ∧ w.cell? ⟨b, o + k, none⟩ = some (u8 (l[k]'(by rw [h.1]; exact hk))) := by
  obtain ⟨b, o, e, hb, hM, hc⟩ := h.2 (by omega)
  exact ⟨b, o, e, hb, hM, hc k (by rw [h.1]; exact hk)⟩
theorem By.take (h : By w M A n l) {k : Nat} (hk : k ≤ n) : By w M A k (l.take k) :=
  ⟨by rw [List.length_take, h.1]; omega, fun hn => by
    obtain ⟨b, o, e, hb, hM, hc⟩ := h.2 (by omega)
    exact ⟨b, o, e, hb, hM, fun j hj => by rw [hc j (by rw [h.1]; rw [List.length_take, h.1] at hj; omega)]; simp⟩⟩
theorem add_mk (b o k : Nat) : (⟨b, o, none⟩ : Addr).add k = ⟨b, o + k, none⟩ := by
  unfold Addr.add
  by_cases h : k = 0 <;> simp [h]
theorem By.at_ (h : By w M A n l) (hn : 0 < n) : ∃ ad, A = some ad ∧ ad.block < w.heap.size ∧ ¬ M ad.block ∧ ∀ j (h : j < l.length), w.cell? (ad.add j) = some (u8 l[j]) := by
  obtain ⟨b, o, e, hb, hM, hc⟩ := h.2 hn
  exact ⟨_, e, hb, hM, fun j hj => by rw [add_mk]; exact hc j hj⟩
/-- .. from k on, as the walk cuts it. -/
theorem By.drop (h : By w M A n l) {k cap : Nat} (hk : k ≤ n) (hc : n ≤ cap) : By w M (if cap = k then A else A.map (·.add k)) (n - k) (l.drop k) :=
  ⟨by rw [List.length_drop, h.1], fun hn => by
    obtain ⟨b, o, e, hb, hM, hcl⟩ := h.2 (by omega)
    subst e
    rw [if_neg (by omega)]
    refine ⟨b, o + k, by simp [add_mk], hb, hM, fun j hj => ?_⟩
    rw [Nat.add_assoc, hcl (k + j) (by rw [List.length_drop] at hj; omega)]
    simp⟩
end
end Go.Proofs.YtojmckbpafkagaaGreatDoor
