/- StoresPut: the law answers true, whatever the storage, the place and the bytes. -/
import Derived.Test.YtojmckbpafkagaaGreatDoorSPutY
set_option linter.unusedVariables false
set_option linter.unusedSimpArgs false
namespace Go.Proofs.YtojmckbpafkagaaGreatDoor
open Go.RowKit Go.Lib Go.Maps
set_option maxRecDepth 100000
theorem bts_by {w : World} {A : Option Addr} {n : Nat} {x : Nat → Nat} (h : Bts w A n x) (hx : ∀ j, x j < 256) : By w NoM A n ((List.range n).map fun j => UInt8.ofNat (x j)) :=
  ⟨by simp, fun h0 => by
    obtain ⟨g, o, e, hg, hc⟩ := h h0
    refine ⟨g, o, e, hg, fun h => h, fun j hj => ?_⟩
    have hj2 : j < n := by simpa using hj
    rw [hc j hj2]
    have := hx j
    simp only [List.getElem_map, List.getElem_range, u8]
    congr 2
    rw [UInt8.toNat_ofNat']
    omega⟩
theorem putL_any (A B : Option Addr) (n m ca cb : Nat) (a b : Nat → Nat) (p0 p1 : Int) (w : World) (hA : Bts w A n a) (ha : ∀ j, a j < 256) (hB : Bts w B m b) (hb : ∀ j, b j < 256) (hca : (∃ x, A = some x ∧ n ≤ ca) ∨ (A = none ∧ n = 0 ∧ ca = 0))
    (hlv : ∀ W, Below w.heap.size w W → Calls Tryz.prog 7 #[] W fun e w' => e = .returned (.bool true) ∧ Below W.heap.size W w') :
    Calls Tryz.prog 5 #[.slice A n ca, .agg #[.int .i64 p0, .int .i64 p1], .slice B m cb] w fun e w' => e = .returned (.bool true) ∧ Below w.heap.size w w' := by
  have h1 := bts_by hA ha
  have h2 := bts_by hB hb
  generalize ((List.range n).map fun j => UInt8.ofNat (a j)) = l at h1
  generalize ((List.range m).map fun j => UInt8.ofNat (b j)) = bl at h2
  by_cases hbig : 300 < n ∨ 300 < m
  · exact putL_big A B n m ca cb l bl p0 p1 hbig w h1 h2 hlv
  · by_cases hw : wi n p0 p1 = 0
    · have hp : 0 ≤ p0 ∧ 0 ≤ p1 ∧ p0 + p1 ≤ (n : Int) := by
        unfold wi at hw
        split at hw
        · cases hw
        · split at hw
          · cases hw
          · omega
      obtain ⟨i, rfl⟩ : ∃ i : Nat, p0 = (i : Nat) := ⟨p0.toNat, by omega⟩
      obtain ⟨k, rfl⟩ : ∃ k : Nat, p1 = (k : Nat) := ⟨p1.toNat, by omega⟩
      by_cases hmk : m = k
      · subst hmk
        exact putL_ok A B n ca cb l bl i m (by omega) (by omega) (by omega) hca w h1 h2 hlv
      · exact putL_len A B n m ca cb l bl i k (by omega) (by omega) (by omega) hmk hca w h1 h2 hlv
    · exact putL_bad A B n m ca cb l bl p0 p1 (by omega) (by omega) hw w h1 h2 hlv
end Go.Proofs.YtojmckbpafkagaaGreatDoor
