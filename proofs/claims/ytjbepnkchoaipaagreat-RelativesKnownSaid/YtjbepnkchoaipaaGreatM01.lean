import Derived.Test.YtjbepnkchoaipaaGreatBase
import Derived.Test.YtjbepnkchoaipaaGreatM00
import Derived.Below
import Derived.Laws.OwnMore
import Derived.Deep.AppendLies
import Derived.Deep.Draws
import Derived.Maps.AppendAt
import Derived.RegionTactic
import Derived.OwnWalk
import Derived.Lib.AppendStr
set_option linter.unusedVariables false
set_option linter.unusedSimpArgs false
/- Slices of bytes that are only read: what they hold; frames: what may have turned. -/
namespace Go.Proofs.YtjbepnkchoaipaaGreat
open Go.RowKit
set_option maxRecDepth 100000

theorem block_of_add (a : Addr) (n : Nat) : (a.add n).block = a.block := by unfold Addr.add; split <;> rfl
theorem add_of_add (a : Addr) (i j : Nat) : (a.add i).add j = a.add (i + j) := by
  unfold Addr.add
  by_cases hi : i = 0 <;> by_cases hj : j = 0 <;> simp [hi, hj, Nat.add_assoc]

/-- A byte as a value. -/
abbrev u8 (b : UInt8) : Value := .int .u8 (b.toNat : Int)
def u8s (l : List UInt8) : List Value := l.map u8
theorem u8s_len (l : List UInt8) : (u8s l).length = l.length := by simp [u8s]
theorem u8s_app (a b : List UInt8) : u8s (a ++ b) = u8s a ++ u8s b := by simp [u8s]
theorem u8s_get (l : List UInt8) (j : Nat) (h : j < l.length) : (u8s l)[j]? = some (u8 l[j]) := by simp [u8s, h]

/-- w' is w, but for the blocks of M, and new ones; what is in M' is new or was in M. -/
structure Step (M M' : Nat → Prop) (w w' : World) : Prop where
  os : w'.os = w.os
  tape : w'.tape = w.tape
  output : w'.output = w.output
  size : w.heap.size ≤ w'.heap.size
  block : ∀ k, k < w.heap.size → ¬ M k → w'.heap[k]? = w.heap[k]?
  sub : ∀ k, k < w.heap.size → M' k → M k
theorem Step.trans {M M' M'' : Nat → Prop} {a b c : World} (h : Step M M' a b) (k : Step M' M'' b c) : Step M M'' a c :=
  ⟨k.os.trans h.os, k.tape.trans h.tape, k.output.trans h.output, Nat.le_trans h.size k.size,
    fun i hi hn => (k.block i (Nat.lt_of_lt_of_le hi h.size) (fun h' => hn (h.sub i hi h'))).trans (h.block i hi hn),
    fun i hi hm => h.sub i hi (k.sub i (Nat.lt_of_lt_of_le hi h.size) hm)⟩
theorem Step.refl (M : Nat → Prop) (w : World) : Step M M w w := ⟨rfl, rfl, rfl, Nat.le_refl _, fun _ _ _ => rfl, fun _ _ h => h⟩
theorem Step.of_below {M : Nat → Prop} {w w' : World} (h : Below w.heap.size w w') : Step M M w w' :=
  ⟨h.os, h.tape, h.output, h.size, fun k hk _ => h.block k hk, fun _ _ h => h⟩
theorem Step.of_grown {M : Nat → Prop} {w w' : World} {row : Option Nat} (h : w.grownBy w' row) (hr : ∀ k, row = some k → k < w.heap.size → M k) : Step M M w w' :=
  ⟨h.os, h.tape, h.output, h.size, fun k hk hn => h.block k hk (fun e => hn (hr k e.symm hk)), fun _ _ h => h⟩
theorem Step.below {M M' : Nat → Prop} {w w' : World} {B : Nat} (h : Step M M' w w') (hB : B ≤ w.heap.size) (hM : ∀ k, M k → B ≤ k) : Below B w w' :=
  ⟨h.os, h.tape, h.output, h.size, fun k hk => h.block k (Nat.lt_of_lt_of_le hk hB) (fun hm => absurd (hM k hm) (by omega))⟩
theorem Step.cell {M M' : Nat → Prop} {w w' : World} (h : Step M M' w w') {a : Addr} (ha : a.block < w.heap.size) (hM : ¬ M a.block) : w'.cell? a = w.cell? a :=
  World.cell?_of_block (h.block _ ha hM)

/-- A slice of n bytes at A reads as l; its block is not in M. -/
def By (w : World) (M : Nat → Prop) (A : Option Addr) (n : Nat) (l : List UInt8) : Prop :=
  l.length = n ∧ (0 < n → ∃ b o, A = some ⟨b, o, none⟩ ∧ b < w.heap.size ∧ ¬ M b ∧ ∀ j (h : j < l.length), w.cell? ⟨b, o + j, none⟩ = some (u8 l[j]))
abbrev NoM : Nat → Prop := fun _ => False
section
variable {w w' : World} {M M' : Nat → Prop} {A : Option Addr} {n : Nat} {l : List UInt8}
theorem By.nil_ : By w M A 0 [] := ⟨rfl, fun h => absurd h (by omega)⟩
theorem By.step (h : By w M A n l) (hs : Step M M' w w') : By w' M' A n l :=
  ⟨h.1, fun hn => by
    obtain ⟨b, o, e, hb, hM, hc⟩ := h.2 hn
    exact ⟨b, o, e, Nat.lt_of_lt_of_le hb hs.size, fun hm => hM (hs.sub b hb hm), fun j hj => (hs.cell (a := ⟨b, o + j, none⟩) hb hM).trans (hc j hj)⟩⟩
theorem By.below (h : By w M A n l) (hb : Below w.heap.size w w') : By w' M A n l := h.step (Step.of_below hb)
theorem By.noM (h : By w M A n l) : By w NoM A n l :=
  ⟨h.1, fun hn => by
    obtain ⟨b, o, e, hb, _, hc⟩ := h.2 hn
    exact ⟨b, o, e, hb, fun h => h, hc⟩⟩
theorem By.drewN (h : By w M A n l) (k : Nat) : By (w.drewN k) M A n l := h
theorem By.drew (h : By w M A n l) : By w.drew M A n l := h
theorem By.alloc (h : By w M A n l) (o : Obj) : By (w.alloc o) M A n l := h.below ((Below.refl _ _).alloc (Nat.le_refl _) _)
theorem By.cell (h : By w M A n l) {k : Nat} (hk : k < n) : ∃ b o, A = some ⟨b, o, none⟩ ∧ b < w.heap.size ∧ ¬ M b ∧ w.cell? ⟨b, o + k, none⟩ = some (u8 (l[k]'(by rw [h.1]; exact hk))) := by
  obtain ⟨b, o, e, hb, hM, hc⟩ := h.2 (by omega)
  exact ⟨b, o, e, hb, hM, hc k (by rw [h.1]; exact hk)⟩
theorem By.take (h : By w M A n l) {k : Nat} (hk : k ≤ n) : By w M A k (l.take k) :=
  ⟨by rw [List.length_take, h.1]; omega, fun hn => by
    obtain ⟨b, o, e, hb, hM, hc⟩ := h.2 (by omega)
    exact ⟨b, o, e, hb, hM, fun j hj => by rw [hc j (by rw [h.1]; rw [List.length_take, h.1] at hj; omega)]; simp⟩⟩
theorem add_mk (b o k : Nat) : (⟨b, o, none⟩ : Addr).add k = ⟨b, o + k, none⟩ := by
  unfold Addr.add
  by_cases h : k = 0 <;> simp [h]
theorem By.at_ (h : By w M A n l) (hn : 0 < n) : ∃ ad, A = some ad ∧ ad.block < w.heap.size ∧ ¬ M ad.block ∧ ∀ j (h : j < l.length), w.cell? (ad.add j) = some (u8 l[j]) := by
  obtain ⟨b, o, e, hb, hM, hc⟩ := h.2 hn
  exact ⟨_, e, hb, hM, fun j hj => by rw [add_mk]; exact hc j hj⟩
/-- .. from k on, as the walk cuts it. -/
theorem By.drop (h : By w M A n l) {k cap : Nat} (hk : k ≤ n) (hc : n ≤ cap) : By w M (if cap = k then A else A.map (·.add k)) (n - k) (l.drop k) :=
  ⟨by rw [List.length_drop, h.1], fun hn => by
    obtain ⟨b, o, e, hb, hM, hcl⟩ := h.2 (by omega)
    subst e
    rw [if_neg (by omega)]
    refine ⟨b, o + k, by simp [add_mk], hb, hM, fun j hj => ?_⟩
    rw [Nat.add_assoc, hcl (k + j) (by rw [List.length_drop] at hj; omega)]
    simp⟩
end
end Go.Proofs.YtjbepnkchoaipaaGreat
/- append of bytes: onto a row of one's own, from bytes that are read. -/
namespace Go.Proofs.YtjbepnkchoaipaaGreat
open Go.RowKit
set_option maxRecDepth 100000
theorem u8s_one (l : List UInt8) : ∀ u ∈ u8s l, u.oneCell' = true := by
  intro u hu
  simp only [u8s, List.mem_map] at hu
  obtain ⟨b, _, rfl⟩ := hu
  rfl
theorem Tryz.infoB : (Tryz.prog.info? 5).map (fun i => (i.zero, i.size, i.bytes)) = some (some (.int .u8 0), 1, 1) := by kernel_rfl

section
variable {P : Program} (w : World)
theorem run_append_of_nil (base : Nat) (t ty e : TypeId) (i : TypeInfo) (size : Nat) (ht : P.underlying t = some (.slice e)) (hi : P.info? e = some i)
    (v : Value) (n : Nat) (xs : List Value) (hown : w.ownsRow base e size v n xs) (A : Option Addr) (c : Nat) : (Builtin.append_ #[t, t] ty #[v, .slice A 0 c]).run P w = .ok v w := by
  rcases hown.2 with ⟨rfl, rfl⟩ | ⟨g, cap, cur, rfl, _, _, hnc, _⟩
  · cases A <;> simp [Builtin.append_, run_underlying ht, sizeOf, typeInfo, hi, Builtin.lenOf, Builtin.firstCells, loadCells, loadCellsFrom, Result.andThen, storeCells]
  · cases A <;> simp [Builtin.append_, run_underlying ht, sizeOf, typeInfo, hi, Builtin.lenOf, Builtin.firstCells, loadCells, loadCellsFrom, Result.andThen, hnc, storeCells]
end

/-- append(v, x...) of bytes: v a row of one's own, x whatever bytes. -/
theorem run_append_by (w : World) (base : Nat) (v : Value) (n : Nat) (l : List UInt8) (hown : w.ownsRow base 5 1 v n (u8s l)) (M : Nat → Prop) (A : Option Addr) (m c : Nat) (x : List UInt8) (hx : By w M A m x)
    (hb : n + m ≤ 100000000) (hbase : base ≤ w.heap.size) (ty : TypeId) :
    ∃ v' w', (Builtin.append_ #[37, 37] ty #[v, .slice A m c]).run Tryz.prog w = .ok v' w' ∧ w'.ownsRow base 5 1 v' (n + m) (u8s (l ++ x)) ∧ w.grownBy w' v.ownBlock ∧ (v'.ownBlock = v.ownBlock ∨ v'.ownBlock = some w.heap.size) ∧ (v' = .slice none 0 0 ↔ v = .slice none 0 0 ∧ m = 0) := by
  obtain ⟨i0, hi, hz0, hz1, hz2⟩ := info_parts Tryz.infoB
  rcases Nat.eq_zero_or_pos m with h0 | h0
  · subst h0
    obtain rfl : x = [] := List.eq_nil_of_length_eq_zero hx.1
    exact ⟨v, w, run_append_of_nil w base _ ty _ i0 1 Tryz.underlying37 hi v n _ hown A c, by simpa using hown, World.grownBy.refl w _, .inl rfl, by simp⟩
  · obtain ⟨ad, rfl, _, _, hc⟩ := hx.at_ h0
    obtain ⟨v', w', hr, h1, h2, h3, h4⟩ := run_append_own_at (P := Tryz.prog) w base 37 ty 5 i0 (.int .u8 0) 1 1 Tryz.underlying37 hi hz0 hz1 hz2 rfl (by decide) v n (u8s l) hown ad m c (u8s x) (by rw [u8s_len, hx.1, Nat.mul_one])
      (fun j u hu => by
        have hj : j < x.length := by
          by_cases hj : j < x.length
          · exact hj
          · rw [List.getElem?_eq_none (by rw [u8s_len]; omega)] at hu; cases hu
        rw [u8s_get x j hj] at hu
        injection hu with hu; rw [← hu]; exact hc j hj) (u8s_one x) (by unfold maxLen; omega) (by omega) hbase
    exact ⟨v', w', hr, by rw [u8s_app]; exact h1, h2, h4, h3⟩
theorem run_append_bys (w : World) (base : Nat) (v : Value) (n : Nat) (l : List UInt8) (hown : w.ownsRow base 5 1 v n (u8s l)) (s : ByteArray)
    (hb : n + s.size ≤ 100000000) (hbase : base ≤ w.heap.size) (ty : TypeId) :
    ∃ v' w', (Builtin.append_ #[37, 9] ty #[v, .string s]).run Tryz.prog w = .ok v' w' ∧ w'.ownsRow base 5 1 v' (n + s.size) (u8s (l ++ s.data.toList)) ∧ w.grownBy w' v.ownBlock := by
  obtain ⟨i0, hi, hz0, hz1, hz2⟩ := info_parts Tryz.infoB
  obtain ⟨v', w', hr, h1, h2, _⟩ := Lib.run_append_own_string (P := Tryz.prog) w base 37 9 ty 5 i0 Tryz.underlying37 Tryz.underlying9 hi hz0 hz1 hz2 v n (u8s l) hown s (by unfold maxLen; omega) (by omega) hbase
  exact ⟨v', w', hr, by rw [u8s_app]; exact h1, h2⟩

section
variable {w : World} {ops : Array Oper} {rest : List Oper} {o : Oper} {a : Act} {Q : Exit → Act → World → Prop}
theorem wpList_app_by (hgd : o.guard = none) (s x : Operand) (ho : o.op = .call { callee := .builtin .append, args := #[s, x], argTypes := #[37, 37] })
    (base : Nat) (v : Value) (n : Nat) (l : List UInt8) (hs : a.eval s = v) (hown : w.ownsRow base 5 1 v n (u8s l)) (M : Nat → Prop) (A : Option Addr) (m c : Nat) (x' : List UInt8) (hx : a.eval x = .slice A m c) (hr : By w M A m x')
    (hb : n + m ≤ 100000000) (hbase : base ≤ w.heap.size)
    (h : ∀ v' w', w'.ownsRow base 5 1 v' (n + m) (u8s (l ++ x')) → w.grownBy w' v.ownBlock → (v'.ownBlock = v.ownBlock ∨ v'.ownBlock = some w.heap.size) → (v' = .slice none 0 0 ↔ v = .slice none 0 0 ∧ m = 0) → wpList Tryz.prog ops Q rest (a.put o.dst v') w') : wpList Tryz.prog ops Q (o :: rest) a w := by
  refine wpList_plain hgd fun K hK => ?_
  obtain ⟨v', w', hrun, h2, h3, h4, h5⟩ := run_append_by w base v n l hown M A m c x' hr hb hbase o.type
  unfold Oper.wp execOp
  simp only [ho, resolve, invoke, builtin, Sem.run_bind, Sem.run_pure, Result.andThen_ok, List.map_toArray, List.map_cons, List.map_nil, hs, hx, hrun]
  exact hK _ _ (h v' w' h2 h3 h4 h5)
theorem wpList_app_str (hgd : o.guard = none) (s x : Operand) (ho : o.op = .call { callee := .builtin .append, args := #[s, x], argTypes := #[37, 9] })
    (base : Nat) (v : Value) (n : Nat) (l : List UInt8) (hs : a.eval s = v) (hown : w.ownsRow base 5 1 v n (u8s l)) (t : ByteArray) (hx : a.eval x = .string t)
    (hb : n + t.size ≤ 100000000) (hbase : base ≤ w.heap.size)
    (h : ∀ v' w', w'.ownsRow base 5 1 v' (n + t.size) (u8s (l ++ t.data.toList)) → w.grownBy w' v.ownBlock → wpList Tryz.prog ops Q rest (a.put o.dst v') w') : wpList Tryz.prog ops Q (o :: rest) a w := by
  refine wpList_plain hgd fun K hK => ?_
  obtain ⟨v', w', hrun, h2, h3⟩ := run_append_bys w base v n l hown t hb hbase o.type
  unfold Oper.wp execOp
  simp only [ho, resolve, invoke, builtin, Sem.run_bind, Sem.run_pure, Result.andThen_ok, List.map_toArray, List.map_cons, List.map_nil, hs, hx, hrun]
  exact hK _ _ (h v' w' h2 h3)
end
/-- A row of one's own is bytes that are read. -/
theorem ownsRow_by {w : World} {base n : Nat} {v : Value} {l : List UInt8} {M : Nat → Prop} (h : w.ownsRow base 5 1 v n (u8s l)) (hM : ∀ k, M k → k < base) : ∃ A c, v = .slice A n c ∧ n ≤ c ∧ By w M A n l := by
  have hl : l.length = n := by have := h.1; simpa [u8s_len] using this
  rcases h.2 with ⟨rfl, rfl⟩ | ⟨g, cap, cur, rfl, hbase, hb, h1, h2, h3, h4⟩
  · exact ⟨none, 0, rfl, Nat.le_refl _, hl, fun h => absurd h (by omega)⟩
  · refine ⟨_, cap, rfl, h1, hl, fun _ => ⟨g, 0, rfl, (Array.getElem?_eq_some_iff.1 hb).1, fun hm => by have := hM g hm; omega, fun j hj => ?_⟩⟩
    rw [Nat.zero_add]
    have := h.cellAt j (by omega)
    rw [this, u8s_get l j hj]
end Go.Proofs.YtjbepnkchoaipaaGreat
