import Derived.Test.YthjjbaiijelhnaaBase
import Derived.Below
import Derived.Laws.OwnMore
import Derived.Maps.AppendAt
import Derived.OwnWalk
set_option linter.unusedVariables false
set_option linter.unusedSimpArgs false
/- append onto a row of one's own whose block is known whole, as far as a predicate goes (its spare, too). -/
namespace Go.Proofs.Ythjjbaiijelhnaa
open Go.RowKit
set_option maxRecDepth 100000
/-- Every cell of the block on which a slice lies. -/
def RowP (pr : Value → Prop) (w : World) (v : Value) : Prop := ∀ g, v.ownBlock = some g → ∃ (cur : Array Value) (e : TypeId) (fr : Nat × Nat), w.heap[g]? = some (.cells cur e fr) ∧ ∀ u ∈ cur.toList, pr u
theorem RowP.same {pr : Value → Prop} {w w' : World} {v : Value} (h : RowP pr w v) (hb : ∀ g, v.ownBlock = some g → w'.heap[g]? = w.heap[g]?) : RowP pr w' v := fun g hg => by
  obtain ⟨cur, e, fr, h1, h2⟩ := h g hg
  exact ⟨cur, e, fr, (hb g hg).trans h1, h2⟩
theorem RowP.cell {pr : Value → Prop} {w : World} {v : Value} (h : RowP pr w v) {g o : Nat} (hg : v.ownBlock = some g) {u : Value} (hc : w.cell? ⟨g, o, none⟩ = some u) : pr u := by
  obtain ⟨cur, e, fr, h1, h2⟩ := h g hg
  simp [World.cell?, h1] at hc
  exact h2 u (Array.mem_toList_iff.2 (Array.mem_of_getElem? hc))
theorem rowP_lit (pr : Value → Prop) (w : World) (x : Value) (n c : Nat) (e : TypeId) (hx : pr x) : RowP pr (w.alloc (.cells #[x] e)) (.slice (some ⟨w.heap.size, 0, none⟩) n c) := fun g hg => by
  have : w.heap.size = g := by simpa [Value.ownBlock] using hg
  subst this
  exact ⟨_, e, _, heap_alloc_new w _, fun u hu => by simp at hu; subst hu; exact hx⟩
section
variable {P : Program} (w : World)
theorem run_append_P (pr : Value → Prop) (base : Nat) (t ty e : TypeId) (i : TypeInfo) (z : Value) (bytes : Nat) (ht : P.underlying t = some (.slice e)) (hi : P.info? e = some i) (hz : i.zero = some z)
    (hsize : i.size = 1) (hby : i.bytes = bytes) (hzs : z.cells = #[z]) (hzp : pr z)
    (v : Value) (n : Nat) (xs : List Value) (hown : w.ownsRow base e 1 v n xs) (hp : RowP pr w v) (hxs : ∀ u ∈ xs, pr u)
    (a : Addr) (c : Nat) (new : Value) (hnew : w.cell? a = some new) (h1 : new.oneCell' = true) (hnp : pr new)
    (h63 : n + 1 ≤ maxLen) (hbytes : (n + 1) * bytes ≤ 140737488355328) (hbase : base ≤ w.heap.size) :
    ∃ v' w', (Builtin.append_ #[t, t] ty #[v, .slice (some a) 1 c]).run P w = .ok v' w' ∧ w'.ownsRow base e 1 v' (n + 1) (xs ++ [new]) ∧ w.grownBy w' v.ownBlock ∧
      (v'.ownBlock = v.ownBlock ∨ v'.ownBlock = some w.heap.size) ∧ RowP pr w' v' := by
  subst hby
  have hnews : ∀ j u, [new][j]? = some u → w.cell? (a.add j) = some u := by
    intro j u hu
    match j, hu with
    | 0, hu => simp at hu; subst hu; simpa [Addr.add] using hnew
    | j + 1, hu => simp at hu
  have h1' : ∀ u ∈ [new], u.oneCell' = true := fun u hu => by simp at hu; subst hu; exact h1
  have hl : [new].length = 1 * i.size := by rw [hsize]; rfl
  have hsmall : n + 1 ≤ 9223372036854775807 := by simp only [maxLen] at h63; omega
  have hlen : (xs ++ [new]).length = (n + 1) * 1 := by rw [List.length_append, hown.1]; simp
  have zc : ∀ k, ∀ u ∈ (Builtin.zeroCells z.cells k).toList, pr u := by
    intro k u hu
    simp [Builtin.zeroCells, hzs, Nat.mod_one] at hu
    rw [← hu.2]; exact hzp
  have grown : ∀ (old : Nat), old < n + 1 → ∀ (row : Option Nat),
      (w.drew.alloc (.cells (xs.toArray ++ [new].toArray ++ Builtin.zeroCells z.cells (grownCap w (n + 1) old e - (n + 1))) e)).ownsRow base e 1
        (.slice (some ⟨w.heap.size, 0, none⟩) (n + 1) (grownCap w (n + 1) old e)) (n + 1) (xs ++ [new]) ∧
      w.grownBy (w.drew.alloc (.cells (xs.toArray ++ [new].toArray ++ Builtin.zeroCells z.cells (grownCap w (n + 1) old e - (n + 1))) e)) row ∧
      RowP pr (w.drew.alloc (.cells (xs.toArray ++ [new].toArray ++ Builtin.zeroCells z.cells (grownCap w (n + 1) old e - (n + 1))) e)) (.slice (some ⟨w.heap.size, 0, none⟩) (n + 1) (grownCap w (n + 1) old e)) := by
    intro old ho row
    have hge := grownCap_ge w (n + 1) old e
    have hcm : grownCap w (n + 1) old e ≤ maxLen := grownCap_le_maxLen w (n + 1) old e h63
    refine ⟨⟨hlen, .inr ⟨w.heap.size, _, _, rfl, hbase, heap_alloc_new w.drew _, hge, hcm, ?_, ?_⟩⟩, ⟨rfl, rfl, rfl, by simp, fun k hk _ => Below.heap_alloc w.drew _ k hk⟩, fun g hg => ?_⟩
    · simp only [Array.size_append, List.size_toArray, size_zeroCells, hzs, hown.1]
      simp
      omega
    · simp only [Array.toList_append, List.append_assoc]
      rw [← List.append_assoc, ← hlen]
      exact List.take_left
    · have : w.heap.size = g := by simpa [Value.ownBlock] using hg
      subst this
      refine ⟨_, e, _, heap_alloc_new w.drew _, fun u hu => ?_⟩
      simp only [Array.toList_append, List.mem_append] at hu
      rcases hu with (hu | hu) | hu
      · exact hxs u hu
      · have : u = new := by simpa using hu
        rw [this]; exact hnp
      · exact zc _ u hu
  rcases hown.2 with ⟨rfl, rfl⟩ | ⟨g, cap, cur, rfl, hbg, hg, hnc, hcm, hcs, htake⟩
  · have hx : xs = [] := List.eq_nil_of_length_eq_zero (by simpa using hown.1)
    subst hx
    have hr := run_append_nil (P := P) w t ty e i z ht hi hz a 1 c [new] hl hnews (by omega) (by omega) (by have hb := hbytes; simp only [Nat.zero_add] at hb; omega)
    have hgr := grown 0 (by omega) (Value.ownBlock (.slice none 0 0))
    simp only [Nat.zero_add, List.nil_append, Array.empty_append] at hgr ⊢
    exact ⟨_, _, hr, hgr.1, hgr.2.1, Or.inr rfl, hgr.2.2⟩
  · by_cases hroom : n + 1 ≤ cap
    · have hfit : n * i.size + [new].length ≤ cur.size := by rw [hl, hsize, hcs, ← Nat.add_mul]; exact Nat.mul_le_mul_right _ hroom
      have hr := run_append_room (P := P) w t ty e i ht hi g n cap cur hg a 1 c [new] hl hnews h1' hroom hfit
      rw [hsize] at hr
      refine ⟨_, _, hr, ⟨hlen, .inr ⟨g, cap, _, rfl, hbg, setRow_heap w g cur _ e _ hg, hroom, hcm, ?_, ?_⟩⟩, ⟨rfl, rfl, rfl, by simp, fun k _ hk => setRow_other w g k _ (fun e => hk (by simp [Value.ownBlock, e]))⟩, Or.inl rfl, fun g' hg' => ?_⟩
      · rw [hsize] at hfit
        simp only [List.size_toArray, List.length_append, List.length_take, List.length_drop, Array.length_toList]
        omega
      · rw [htake, ← hlen]
        exact List.take_left
      · have : g = g' := by simpa [Value.ownBlock] using hg'
        subst this
        refine ⟨_, e, _, setRow_heap w g cur _ e _ hg, fun u hu => ?_⟩
        obtain ⟨cur', e', fr', q1, q2⟩ := hp g rfl
        rw [hg] at q1
        injection q1 with q1
        injection q1 with q1
        subst q1
        have hu : u ∈ (cur.toList.take (n * 1) ++ [new]) ++ cur.toList.drop (n * 1 + [new].length) := by simpa using hu
        rcases List.mem_append.1 hu with hu | hu
        · rcases List.mem_append.1 hu with hu | hu
          · exact q2 u (List.mem_of_mem_take hu)
          · have : u = new := by simpa using hu
            rw [this]; exact hnp
        · exact q2 u (List.mem_of_mem_drop hu)
    · have holds : ∀ j u, xs[j]? = some u → w.cell? ((⟨g, 0, none⟩ : Addr).add j) = some u := hown.cells (g := g) rfl
      have hr := run_append_grow (P := P) w t ty e i z ht hi hz ⟨g, 0, none⟩ n cap xs (by rw [hsize]; exact hown.1) holds a 1 c [new] hl hnews (by omega) (by omega) (growslice_fits (by omega) hbytes)
      have hgr := grown cap (by omega) (Value.ownBlock (.slice (some ⟨g, 0, none⟩) n cap))
      exact ⟨_, _, hr, hgr.1, hgr.2.1, Or.inr rfl, hgr.2.2⟩
theorem wpList_append_P {ops : Array Oper} {rest : List Oper} {o : Oper} {a : Act} {Q : Exit → Act → World → Prop} (hgd : o.guard = none) (s x : Operand) (t : TypeId)
    (ho : o.op = .call { callee := .builtin .append, args := #[s, x], argTypes := #[t, t] })
    (pr : Value → Prop) (base : Nat) (e : TypeId) (i : TypeInfo) (z : Value) (bytes : Nat) (ht : P.underlying t = some (.slice e)) (hi : P.info? e = some i) (hz : i.zero = some z)
    (hsize : i.size = 1) (hby : i.bytes = bytes) (hzs : z.cells = #[z]) (hzp : pr z)
    (v : Value) (n : Nat) (xs : List Value) (hs : a.eval s = v) (hown : w.ownsRow base e 1 v n xs) (hp : RowP pr w v) (hxs : ∀ u ∈ xs, pr u)
    (ad : Addr) (c : Nat) (new : Value) (hx : a.eval x = .slice (some ad) 1 c) (hnew : w.cell? ad = some new) (h1 : new.oneCell' = true) (hnp : pr new)
    (h63 : n + 1 ≤ maxLen) (hbytes : (n + 1) * bytes ≤ 140737488355328) (hbase : base ≤ w.heap.size)
    (h : ∀ v' w', w'.ownsRow base e 1 v' (n + 1) (xs ++ [new]) → w.grownBy w' v.ownBlock → (v'.ownBlock = v.ownBlock ∨ v'.ownBlock = some w.heap.size) → RowP pr w' v' → wpList P ops Q rest (a.put o.dst v') w') :
    wpList P ops Q (o :: rest) a w := by
  refine wpList_plain hgd fun K hK => ?_
  obtain ⟨v', w', hr, h2, h3, h4, h5⟩ := run_append_P (P := P) w pr base t o.type e i z bytes ht hi hz hsize hby hzs hzp v n xs hown hp hxs ad c new hnew h1 hnp h63 hbytes hbase
  unfold Oper.wp execOp
  simp only [ho, resolve, invoke, builtin, Sem.run_bind, Sem.run_pure, Result.andThen_ok, List.map_toArray, List.map_cons, List.map_nil, hs, hx, hr]
  exact hK _ _ (h v' w' h2 h3 h4 h5)
end
end Go.Proofs.Ythjjbaiijelhnaa
