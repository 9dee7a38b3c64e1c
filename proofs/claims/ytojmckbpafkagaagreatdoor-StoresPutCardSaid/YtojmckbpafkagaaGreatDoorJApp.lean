/- append of bytes: onto a row of one's own, from bytes that are read. -/
import Derived.Test.YtojmckbpafkagaaGreatDoorJBy
import Derived.Lib.AppendStr
set_option linter.unusedVariables false
set_option linter.unusedSimpArgs false
namespace Go.Proofs.YtojmckbpafkagaaGreatDoor
open Go.RowKit
set_option maxRecDepth 100000
theorem u8s_one (l : List UInt8) : ∀ u ∈ u8s l, u.oneCell' = true := by
  intro u hu
  simp only [u8s, List.mem_map] at hu
  obtain ⟨b, _, rfl⟩ := hu
  rfl
theorem Tryz.infoB : (Tryz.prog.info? 5).map (fun i => (i.zero, i.size, i.bytes)) = some (some (.int .u8 0), 1, 1) := by kernel_rfl

section
variable {P : Program} (w : World)
theorem run_append_of_nil (base : Nat) (t ty e : TypeId) (i : TypeInfo) (size : Nat) (ht : P.underlying t = some (.slice e)) (hi : P.info? e = some i)
    (v : Value) (n : Nat) (xs : List Value) (hown : w.ownsRow base e size v n xs) (A : Option Addr) (c : Nat) : (Builtin.append_ #[t, t] ty #[v, .slice A 0 c]).run P w = .ok v w := by
  rcases hown.2 with ⟨rfl, rfl⟩ | ⟨g, cap, cur, rfl, _, _, hnc, _⟩
  · cases A <;> simp [Builtin.append_, run_underlying ht, sizeOf, typeInfo, hi, Builtin.lenOf, Builtin.firstCells, loadCells, loadCellsFrom, Result.andThen, storeCells]
  · cases A <;> simp [Builtin.append_, run_underlying ht, sizeOf, typeInfo, hi, Builtin.lenOf, Builtin.firstCells, loadCells, loadCellsFrom, Result.andThen, hnc, storeCells]
end

/-- append(v, x...) of bytes: v a row of one's own, x whatever bytes. -/
theorem run_append_by (w : World) (base : Nat) (v : Value) (n : Nat) (l : List UInt8) (hown : w.ownsRow base 5 1 v n (u8s l)) (M : Nat → Prop) (A : Option Addr) (m c : Nat) (x : List UInt8) (hx : By w M A m x)
    (hb : n + m ≤ 100000000) (hbase : base ≤ w.heap.size) (ty : TypeId) :
    ∃ v' w', (Builtin.append_ #[27, 27] ty #[v, .slice A m c]).run Tryz.prog w = .ok v' w' ∧ w'.ownsRow base 5 1 v' (n + m) (u8s (l ++ x)) ∧ w.grownBy w' v.ownBlock ∧ (v'.ownBlock = v.ownBlock ∨ v'.ownBlock = some w.heap.size) ∧ (v' = .slice none 0 0 ↔ v = .slice none 0 0 ∧ m = 0) := by
  obtain ⟨i0, hi, hz0, hz1, hz2⟩ := info_parts Tryz.infoB
  rcases Nat.eq_zero_or_pos m with h0 | h0
  · subst h0
    obtain rfl : x = [] := List.eq_nil_of_length_eq_zero hx.1
    exact ⟨v, w, run_append_of_nil w base _ ty _ i0 1 Tryz.underlying27 hi v n _ hown A c, by simpa using hown, World.grownBy.refl w _, .inl rfl, by simp⟩
  · obtain ⟨ad, rfl, _, _, hc⟩ := hx.at_ h0
    obtain ⟨v', w', hr, h1, h2, h3, h4⟩ := run_append_own_at (P := Tryz.prog) w base 27 ty 5 i0 (.int .u8 0) 1 1 Tryz.underlying27 hi hz0 hz1 hz2 rfl (by decide) v n (u8s l) hown ad m c (u8s x) (by rw [u8s_len, hx.1, Nat.mul_one])
      (fun j u hu => by
        have hj : j < x.length := by
          by_cases hj : j < x.length
          · exact hj
          · rw [List.getElem?_eq_none (by rw [u8s_len]; omega)] at hu; cases hu
        rw [u8s_get x j hj] at hu
        injection hu with hu; rw [← hu]; exact hc j hj) (u8s_one x) (by unfold maxLen; omega) (by omega) hbase
    exact ⟨v', w', hr, by rw [u8s_app]; exact h1, h2, h4, h3⟩
theorem run_append_bys (w : World) (base : Nat) (v : Value) (n : Nat) (l : List UInt8) (hown : w.ownsRow base 5 1 v n (u8s l)) (s : ByteArray)
    (hb : n + s.size ≤ 100000000) (hbase : base ≤ w.heap.size) (ty : TypeId) :
    ∃ v' w', (Builtin.append_ #[27, 9] ty #[v, .string s]).run Tryz.prog w = .ok v' w' ∧ w'.ownsRow base 5 1 v' (n + s.size) (u8s (l ++ s.data.toList)) ∧ w.grownBy w' v.ownBlock := by
  obtain ⟨i0, hi, hz0, hz1, hz2⟩ := info_parts Tryz.infoB
  obtain ⟨v', w', hr, h1, h2, _⟩ := Lib.run_append_own_string (P := Tryz.prog) w base 27 9 ty 5 i0 Tryz.underlying27 Tryz.underlying9 hi hz0 hz1 hz2 v n (u8s l) hown s (by unfold maxLen; omega) (by omega) hbase
  exact ⟨v', w', hr, by rw [u8s_app]; exact h1, h2⟩

section
variable {w : World} {ops : Array Oper} {rest : List Oper} {o : Oper} {a : Act} {Q : Exit → Act → World → Prop}
theorem wpList_app_by (hgd : o.guard = none) (s x : Operand) (ho : o.op = .call { callee := .builtin .append, args := #[s, x], argTypes := #[27, 27] })
    (base : Nat) (v : Value) (n : Nat) (l : List UInt8) (hs : a.eval s = v) (hown : w.ownsRow base 5 1 v n (u8s l)) (M : Nat → Prop) (A : Option Addr) (m c : Nat) (x' : List UInt8) (hx : a.eval x = .slice A m c) (hr : By w M A m x')
    (hb : n + m ≤ 100000000) (hbase : base ≤ w.heap.size)
    (h : ∀ v' w', w'.ownsRow base 5 1 v' (n + m) (u8s (l ++ x')) → w.grownBy w' v.ownBlock → (v'.ownBlock = v.ownBlock ∨ v'.ownBlock = some w.heap.size) → (v' = .slice none 0 0 ↔ v = .slice none 0 0 ∧ m = 0) → wpList Tryz.prog ops Q rest (a.put o.dst v') w') : wpList Tryz.prog ops Q (o :: rest) a w := by
  refine wpList_plain hgd fun K hK => ?_
  obtain ⟨v', w', hrun, h2, h3, h4, h5⟩ := run_append_by w base v n l hown M A m c x' hr hb hbase o.type
  unfold Oper.wp execOp
  simp only [ho, resolve, invoke, builtin, Sem.run_bind, Sem.run_pure, Result.andThen_ok, List.map_toArray, List.map_cons, List.map_nil, hs, hx, hrun]
  exact hK _ _ (h v' w' h2 h3 h4 h5)
theorem wpList_app_str (hgd : o.guard = none) (s x : Operand) (ho : o.op = .call { callee := .builtin .append, args := #[s, x], argTypes := #[27, 9] })
    (base : Nat) (v : Value) (n : Nat) (l : List UInt8) (hs : a.eval s = v) (hown : w.ownsRow base 5 1 v n (u8s l)) (t : ByteArray) (hx : a.eval x = .string t)
    (hb : n + t.size ≤ 100000000) (hbase : base ≤ w.heap.size)
    (h : ∀ v' w', w'.ownsRow base 5 1 v' (n + t.size) (u8s (l ++ t.data.toList)) → w.grownBy w' v.ownBlock → wpList Tryz.prog ops Q rest (a.put o.dst v') w') : wpList Tryz.prog ops Q (o :: rest) a w := by
  refine wpList_plain hgd fun K hK => ?_
  obtain ⟨v', w', hrun, h2, h3⟩ := run_append_bys w base v n l hown t hb hbase o.type
  unfold Oper.wp execOp
  simp only [ho, resolve, invoke, builtin, Sem.run_bind, Sem.run_pure, Result.andThen_ok, List.map_toArray, List.map_cons, List.map_nil, hs, hx, hrun]
  exact hK _ _ (h v' w' h2 h3)
end
/-- A row of one's own is bytes that are read. -/
theorem ownsRow_by {w : World} {base n : Nat} {v : Value} {l : List UInt8} {M : Nat → Prop} (h : w.ownsRow base 5 1 v n (u8s l)) (hM : ∀ k, M k → k < base) : ∃ A c, v = .slice A n c ∧ n ≤ c ∧ By w M A n l := by
  have hl : l.length = n := by have := h.1; simpa [u8s_len] using this
  rcases h.2 with ⟨rfl, rfl⟩ | ⟨g, cap, cur, rfl, hbase, hb, h1, h2, h3, h4⟩
  · exact ⟨none, 0, rfl, Nat.le_refl _, hl, fun h => absurd h (by omega)⟩
  · refine ⟨_, cap, rfl, h1, hl, fun _ => ⟨g, 0, rfl, (Array.getElem?_eq_some_iff.1 hb).1, fun hm => by have := hM g hm; omega, fun j hj => ?_⟩⟩
    rw [Nat.zero_add]
    have := h.cellAt j (by omega)
    rw [this, u8s_get l j hj]
end Go.Proofs.YtojmckbpafkagaaGreatDoor
