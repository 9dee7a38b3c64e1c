/- Contract: the iterator of slices.Backward over a slice of ints. -/
import Derived.Test.YtojmckbpafkagaaGreatDoorBase
import Derived.RangeFuncNested
import Derived.RangeFuncBound
import Derived.RangeFuncCalls
import Derived.RangeFuncLeaves
import Derived.RangeFuncBox
import Derived.OwnWalkIn
import Derived.TacticsInMore
import Derived.LoopNIn
import Derived.LoopIn
set_option linter.unusedVariables false
set_option linter.unusedSimpArgs false
namespace Go.Proofs.YtojmckbpafkagaaGreatDoor
open Go.RowKit Go.Lib
set_option maxRecDepth 100000
attribute [local go_sem] Oper.semAt_some
/-- What the rounds must leave. -/
def KpB (bs : List Nat) (W W' : World) : Prop := ∀ B ∈ bs, W'.heap[B]? = W.heap[B]?
set_option maxHeartbeats 1000000 in
theorem backward1_in (n : Nat) (hn : 1 ≤ n) (l Bs g N cap : Nat) (c : Nat → Int) (J : Nat → World → Prop) (hN : N ≤ 100000)
    (hY : ∀ k W, k < N → J k W → YieldAt Fence.wide (n - 1) Tryz.prog l #[.int .i64 ((N : Int) - 1 - k), .int .i64 (c (N - 1 - k))] W fun e W' => e = .returned (.bool true) ∧ J (k + 1) W' ∧ KpB [Bs, g] W W')
    (W : World) (hs : W.cell? ⟨Bs, 0, none⟩ = some (.slice (some ⟨g, 0, none⟩) N cap)) (hrow : ∀ (j : Nat), j < N → W.cell? ⟨g, j, none⟩ = some (.int .i64 (c j))) (h0 : J 0 W) :
    CallsIn Fence.wide n Tryz.prog 61 #[.func (.yield l) #[] #[], .pointer (some ⟨Bs, 0, none⟩)] W fun e W' => (∃ v, e = .returned v) ∧ J N W' := by
  have HY := Lib.hid hY
  have H0 := Lib.hid h0
  have HS := Lib.hid hs
  have HR := Lib.hid hrow
  clear hY h0 hrow
  refine callsIn_of_wp Tryz.func61 rfl trivial ?_ rfl
  simp only [Tryz.ntmps61, List.size_toArray, List.length_cons, List.length_nil, Nat.reduceAdd, Nat.reduceSub, Array.replicate_succ, Array.replicate_zero, List.push_toArray, List.append_toArray, List.nil_append, List.cons_append]
  gi_wp2
  clear hs
  gi_loopw [3] (fun i W2 => ∃ k : Nat, k ≤ N ∧ i = .int .i64 ((N : Int) - 1 - k) ∧ J k W2 ∧ W2.heap[Bs]? = W.heap[Bs]? ∧ W2.heap[g]? = W.heap[g]?) (fun i _ => (intOf i + 1).toNat)
  case atStart => exact ⟨0, Nat.zero_le _, by go_num, H0.out, rfl, rfl⟩
  case round =>
    obtain ⟨k, hk, rfl, hj, e1, e2⟩ := hrel
    have HJ := Lib.hid hj
    have E1 := Lib.hid e1
    have E2 := Lib.hid e2
    clear hj
    have hcell : ∀ (W2 : World) (B o : Nat), W2.heap[B]? = W.heap[B]? → W2.cell? ⟨B, o, none⟩ = W.cell? ⟨B, o, none⟩ := fun W2 B o e => by simp only [World.cell?, e]
    have hs2 := (hcell wr Bs 0 E1.out).trans HS.out
    by_cases hlt : k < N
    · obtain ⟨fn, tmps, assign, body, hy, hR⟩ := HY.out k wr hlt HJ.out
      have hc2 := (hcell wr g (N - 1 - k) E2.out).trans (HR.out (N - 1 - k) (by omega))
      have hk1 : ((N : Int) - 1 - k) = ((N - 1 - k : Nat) : Int) := by omega
      rw [hk1] at hy ⊢
      have hlt2 : N - 1 - k < N := by omega
      clear hcell
      gi_wp2_with fail
      refine hR.mono ?_
      rintro e W4 ⟨rfl, hj4, hk4⟩
      have hk1' := (hk4 Bs (by simp)).trans E1.out
      have hk2' := (hk4 g (by simp)).trans E2.out
      have HJ4 := Lib.hid hj4
      have HK1 := Lib.hid hk1'
      have HK2 := Lib.hid hk2'
      clear hj4 hk4 hk1' hk2' hc2 hs2 hy e1 e2
      gi_wp2
      go_roundw
      case rel => exact ⟨k + 1, by omega, by go_num, HJ4.out, HK1.out, HK2.out⟩
      case measure => simp [intOf]
    · obtain rfl : k = N := by omega
      have hj' := HJ.out
      have HJE := Lib.hid hj'
      clear hj' hs2 hcell e1 e2
      gi_wp2
      go_end0
      exact ⟨⟨_, rfl⟩, HJE.out⟩
/-- What slices.Backward hands back, called in whatever later world: a value that visits the elements from the last to the first, over rounds that leave the slice and the cell that holds it. -/
theorem backward_ord (Bs g N cap : Nat) (c : Nat → Int) (hN : N ≤ 100000)
    (w : World) (hs : w.cell? ⟨Bs, 0, none⟩ = some (.slice (some ⟨g, 0, none⟩) N cap)) (hrow : ∀ (j : Nat), j < N → w.cell? ⟨g, j, none⟩ = some (.int .i64 (c j)))
    (l : Nat) (J : Nat → World → Prop) (W : World) (hW : Below w.heap.size w W)
    (hY : ∀ k W, k < N → J k W → YieldAt Fence.wide 3 Tryz.prog l #[.int .i64 ((N : Int) - 1 - k), .int .i64 (c (N - 1 - k))] W fun e W' => e = .returned (.bool true) ∧ J (k + 1) W' ∧ KpB [Bs, g] W W') (h0 : J 0 W) :
    CallsIn Fence.wide 4 Tryz.prog 61 #[.func (.yield l) #[] #[], .pointer (some ⟨Bs, 0, none⟩)] W fun e W' => (∃ v, e = .returned v) ∧ J N W' := by
  have hc : ∀ {a : Addr} {v : Value}, w.cell? a = some v → W.cell? a = some v := fun {a v} h => (hW.cell (p := a) (World.block_lt_of_cell? w a h)).trans h
  exact backward1_in 4 (by omega) l Bs g N cap c J hN hY W (hc hs) (fun j hj => hc (hrow j hj)) h0
end Go.Proofs.YtojmckbpafkagaaGreatDoor
