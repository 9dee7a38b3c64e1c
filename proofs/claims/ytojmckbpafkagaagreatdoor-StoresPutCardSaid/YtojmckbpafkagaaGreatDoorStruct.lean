/- A whole struct stored into a block of its own, in a world that is a variable; a struct among two results. -/
import Derived.Test.YtojmckbpafkagaaGreatDoorBase
namespace Go.Proofs.YtojmckbpafkagaaGreatDoor
open Go.RowKit
set_option maxRecDepth 100000
section
variable {P : Program} {w : World}

theorem heap_setCells (g : Nat) (t : TypeId) (fr : Nat × Nat) : ∀ (vs : List Value) (o : Nat) (w : World) (C : Array Value), w.heap[g]? = some (.cells C t fr) →
    ∃ C', (w.setCells g o vs).heap[g]? = some (.cells C' t fr) ∧ C'.size = C.size
  | [], _, _, C, h => ⟨C, h, rfl⟩
  | v :: r, o, w, C, h => by
    have h1 : (w.setCell ⟨g, o, none⟩ v).heap[g]? = some (.cells (C.setIfInBounds o v) t fr) := by
      simp only [World.setCell, Array.getElem?_modify, h]
      simp
    obtain ⟨C', h2, h3⟩ := heap_setCells g t fr r (o + 1) _ _ h1
    exact ⟨C', h2, by simpa using h3⟩
theorem grownBy_setCells (g : Nat) : ∀ (vs : List Value) (o : Nat) (w : World), w.grownBy (w.setCells g o vs) (some g) ∧ (w.setCells g o vs).heap.size = w.heap.size
  | [], _, _ => ⟨⟨rfl, rfl, rfl, Nat.le_refl _, fun _ _ _ => rfl⟩, rfl⟩
  | v :: r, o, w => by
    have ⟨h1, h2⟩ := grownBy_setCells g r (o + 1) (w.setCell ⟨g, o, none⟩ v)
    have hs : (w.setCell ⟨g, o, none⟩ v).heap.size = w.heap.size := by simp [World.setCell]
    refine ⟨⟨h1.os, h1.tape, h1.output, by have := h1.size; rw [hs] at this; exact this, fun k hk hn => ?_⟩, h2.trans hs⟩
    exact (h1.block k (by omega) hn).trans (Below.heap_setCell w _ v k (by intro e; exact hn (by rw [e])))

/-- A whole struct is stored into a block of its own. -/
theorem wpList_store_row {ops : Array Oper} {rest : List Oper} {o : Oper} {a : Act} {Q : Exit → Act → World → Prop}
    (hgd : Region.wanted o (yielded ops a.tmps) = true) (x y : Operand) (ty : TypeId) (hop : o.op = Op.store ty x y) (g : Nat) (hx : a.eval x = .pointer (some ⟨g, 0, none⟩)) (vs : List Value) (hy : a.eval y = .agg vs.toArray)
    (t : TypeId) (C : Array Value) (hg : w.heap[g]? = some (.cells C t (0, 0))) (hC : C.size = vs.length) (hi : (P.info? ty).map (·.size) = some vs.length) (h1 : (vs.all fun v => v.oneCell') = true)
    (hK : ∀ w', w'.heap[g]? = some (.cells vs.toArray t (0, 0)) → w.grownBy w' (some g) → w'.heap.size = w.heap.size → wpList P ops Q rest (a.put o.dst undef) w') :
    wpList P ops Q (o :: rest) a w := by
  refine wpList_want hgd fun K' hK' => ?_
  have hcell : ∀ j, w.cell? ⟨g, j, none⟩ = C[j]? := fun j => cell_of_row w g j C t (0, 0) hg
  have hst := run_storeCells_cells (P := P) g 0 vs 0 w (fun j hj => by rw [hcell]; simp [hC]; omega) (fun j _ => by simp [World.frozen?, hg]) (fun v hv => List.all_eq_true.1 h1 v hv)
  have hrun : (Instr.storeAt ty (.pointer (some ⟨g, 0, none⟩)) (.agg vs.toArray)).run P w = .ok () (w.setCells g 0 vs) := by
    cases hq : P.info? ty with
    | none => simp [hq] at hi
    | some i =>
      have hs : i.size = vs.length := by simpa [hq] using hi
      simp [Instr.storeAt, Instr.sureAddr, storeVar, Sem.run_bind, sizeOf, typeInfo, hq, hs, Value.cells]
      simpa using hst
  obtain ⟨C', hC1, hC2⟩ := heap_setCells g t (0, 0) vs 0 w C hg
  have hCe : C' = vs.toArray := by
    apply Array.ext_getElem?
    intro j
    have e := cell_of_row (w.setCells g 0 vs) g j C' t (0, 0) hC1
    rw [← e]
    by_cases hj : j < vs.length
    · have := World.cell?_setCells_in g vs 0 w (fun j hj => by rw [Nat.zero_add, hcell]; simp [hC]; omega) j hj
      rw [Nat.zero_add] at this
      rw [this]; simp [hj]
    · rw [e, Array.getElem?_eq_none (by omega)]; simp; omega
  subst hCe
  have hb := grownBy_setCells g vs 0 w
  unfold Oper.wp
  simp only [execOp, hop, hx, hy]
  have := hK' _ _ (hK _ hC1 hb.1 hb.2)
  simp only [Sem.run_bind, hrun, Result.andThen]
  exact this

theorem results_row_tmp {fn : Func} {p u : Tmp} {ty : TypeId} (h : fn.results = #[.cell p ty, .tmp u]) (tmps : Array Value) (w : World) (g : Nat) (t : TypeId) (cs : Array Value) (fr : Nat × Nat) (d : TypeDesc)
    (hp : tmps.getD p undef = .pointer (some ⟨g, 0, none⟩)) (hg : w.heap[g]? = some (.cells cs t fr))
    (hu : P.underlying ty = some d) (hd : (match d with | .struct _ | .array _ _ => true | _ => false) = true) (hi : (P.info? ty).map (·.size) = some cs.size) :
    (results fn tmps).run P w = .ok (.tuple #[.agg cs, tmps.getD u undef]) w := by
  rw [results_cell_tmp h]
  simp [hp, asAddr, Result.andThen, Sem.run_pure, run_loadVar_row w g t ty cs fr d hg hu hd hi]
end
end Go.Proofs.YtojmckbpafkagaaGreatDoor
