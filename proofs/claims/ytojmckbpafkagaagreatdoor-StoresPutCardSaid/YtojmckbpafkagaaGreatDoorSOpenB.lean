/- Opening the arguments of the laws of chapter 11: a slice of bytes. -/
import Derived.Test.YtojmckbpafkagaaGreatDoorSOpen
import Derived.Test.YtojmckbpafkagaaGreatDoorSChg
set_option linter.unusedVariables false
set_option linter.unusedSimpArgs false
namespace Go.Proofs.YtojmckbpafkagaaGreatDoor
open Go.ChangeShapes Go.WideShapes Go.ChangeAt Go.RowKit Go.Lib
set_option maxRecDepth 100000
section
variable {H : Type} {enc : TypeId × Value → H} {W : World} {base : Nat} {held : Bool}
theorem scell_addr {a : Addr} {v : Value} (h : W.cell? a = some v) : ∃ b o, a = ⟨b, o, none⟩ ∧ b < W.heap.size := by
  obtain ⟨b, o, s⟩ := a
  have hb := cell_lt h
  refine ⟨b, o, ?_, hb⟩
  cases s with
  | none => rfl
  | some x =>
    exfalso
    unfold World.cell? at h
    split at h
    · simp at h
    · cases h
theorem sadd_mk (b o k : Nat) : (⟨b, o, none⟩ : Addr).add k = ⟨b, o + k, none⟩ := by unfold Addr.add; split <;> simp_all
theorem open_bts {v : Value} {d : DataW H} {ps : List MemPlace} (hd : DataW.Trod enc Tryz.prog W base (fun _ => true) held 27 v d ps) (hv : v.cells = #[v]) :
    ∃ A n c x, v = .slice A n c ∧ Bts W A n x ∧ (∀ j, x j < 256) ∧ n ≤ maxLen ∧ ((∃ a, A = some a ∧ n ≤ c) ∨ (A = none ∧ n = 0 ∧ c = 0)) := by
  obtain ⟨fuel, h⟩ := hd
  rw [hv] at h
  rcases open_ints Tryz.underlying27 Tryz.underlying5 (by kernel_rfl) h with ⟨e, _⟩ | ⟨a, len, cap, zs, e, _, hl, hm, hzl, _, hc, hwf⟩
  · simp at e
    exact ⟨none, 0, 0, fun _ => 0, e, fun h => absurd h (by omega), fun _ => Nat.zero_lt_succ _, Nat.zero_le _, .inr ⟨rfl, rfl, rfl⟩⟩
  · simp at e
    have hzl : zs.length = cap := by simpa using hzl
    have hz : ∀ j, (zs.getD j 0).toNat < 256 := fun j => by
      by_cases hj : j < zs.length
      · have := bounds_u8 (hwf zs[j] (List.getElem_mem hj))
        simp only [List.getD, List.getElem?_eq_getElem hj, Option.getD_some]
        omega
      · simp [List.getD, List.getElem?_eq_none (Nat.le_of_not_lt hj)]
    refine ⟨some a, len, cap, fun j => (zs.getD j 0).toNat, e, fun h0 => ?_, hz, Nat.le_trans hl hm, .inl ⟨a, rfl, hl⟩⟩
    have hc0 := hc 0 (by omega)
    obtain ⟨b, o, e0, hb⟩ := scell_addr hc0
    have e2 : a = ⟨b, o, none⟩ := by rw [← e0]; simp [Addr.add]
    subst e2
    refine ⟨b, o, rfl, hb, fun j hj => ?_⟩
    have hj2 : j < zs.length := by omega
    have := hc j hj2
    rw [sadd_mk] at this
    rw [this]
    have hw := bounds_u8 (hwf zs[j] (List.getElem_mem hj2))
    have hg : zs.getD j 0 = zs[j] := by simp [List.getD, hj2]
    show some (Value.int .u8 _) = some (Value.int .u8 ((zs.getD j 0).toNat : Int))
    rw [hg, Int.toNat_of_nonneg hw.1]
end
end Go.Proofs.YtojmckbpafkagaaGreatDoor
