import Derived.Test.YtjbepnkchoaipaaGreatBase
import Derived.Below
import Derived.Laws.OwnMore
import Derived.Maps.AppendAt
import Derived.OwnWalk
import Derived.Test.YtjbepnkchoaipaaGreatM36
import Derived.Test.YtjbepnkchoaipaaGreatM22
import Derived.Test.YtjbepnkchoaipaaGreatM28
import Derived.Test.YtjbepnkchoaipaaGreatM21
set_option linter.unusedVariables false
set_option linter.unusedSimpArgs false
/- append onto a row of one's own whose block is known whole, as far as a predicate goes (its spare, too). -/
namespace Go.Proofs.YtjbepnkchoaipaaGreat
open Go.RowKit
set_option maxRecDepth 100000
/-- Every cell of the block on which a slice lies. -/
def RowP (pr : Value → Prop) (w : World) (v : Value) : Prop := ∀ g, v.ownBlock = some g → ∃ (cur : Array Value) (e : TypeId) (fr : Nat × Nat), w.heap[g]? = some (.cells cur e fr) ∧ ∀ u ∈ cur.toList, pr u
theorem RowP.same {pr : Value → Prop} {w w' : World} {v : Value} (h : RowP pr w v) (hb : ∀ g, v.ownBlock = some g → w'.heap[g]? = w.heap[g]?) : RowP pr w' v := fun g hg => by
  obtain ⟨cur, e, fr, h1, h2⟩ := h g hg
  exact ⟨cur, e, fr, (hb g hg).trans h1, h2⟩
theorem RowP.cell {pr : Value → Prop} {w : World} {v : Value} (h : RowP pr w v) {g o : Nat} (hg : v.ownBlock = some g) {u : Value} (hc : w.cell? ⟨g, o, none⟩ = some u) : pr u := by
  obtain ⟨cur, e, fr, h1, h2⟩ := h g hg
  simp [World.cell?, h1] at hc
  exact h2 u (Array.mem_toList_iff.2 (Array.mem_of_getElem? hc))
theorem rowP_lit (pr : Value → Prop) (w : World) (x : Value) (n c : Nat) (e : TypeId) (hx : pr x) : RowP pr (w.alloc (.cells #[x] e)) (.slice (some ⟨w.heap.size, 0, none⟩) n c) := fun g hg => by
  have : w.heap.size = g := by simpa [Value.ownBlock] using hg
  subst this
  exact ⟨_, e, _, heap_alloc_new w _, fun u hu => by simp at hu; subst hu; exact hx⟩
section
variable {P : Program} (w : World)
theorem run_append_P (pr : Value → Prop) (base : Nat) (t ty e : TypeId) (i : TypeInfo) (z : Value) (bytes : Nat) (ht : P.underlying t = some (.slice e)) (hi : P.info? e = some i) (hz : i.zero = some z)
    (hsize : i.size = 1) (hby : i.bytes = bytes) (hzs : z.cells = #[z]) (hzp : pr z)
    (v : Value) (n : Nat) (xs : List Value) (hown : w.ownsRow base e 1 v n xs) (hp : RowP pr w v) (hxs : ∀ u ∈ xs, pr u)
    (a : Addr) (c : Nat) (new : Value) (hnew : w.cell? a = some new) (h1 : new.oneCell' = true) (hnp : pr new)
    (h63 : n + 1 ≤ maxLen) (hbytes : (n + 1) * bytes ≤ 140737488355328) (hbase : base ≤ w.heap.size) :
    ∃ v' w', (Builtin.append_ #[t, t] ty #[v, .slice (some a) 1 c]).run P w = .ok v' w' ∧ w'.ownsRow base e 1 v' (n + 1) (xs ++ [new]) ∧ w.grownBy w' v.ownBlock ∧
      (v'.ownBlock = v.ownBlock ∨ v'.ownBlock = some w.heap.size) ∧ RowP pr w' v' := by
  subst hby
  have hnews : ∀ j u, [new][j]? = some u → w.cell? (a.add j) = some u := by
    intro j u hu
    match j, hu with
    | 0, hu => simp at hu; subst hu; simpa [Addr.add] using hnew
    | j + 1, hu => simp at hu
  have h1' : ∀ u ∈ [new], u.oneCell' = true := fun u hu => by simp at hu; subst hu; exact h1
  have hl : [new].length = 1 * i.size := by rw [hsize]; rfl
  have hsmall : n + 1 ≤ 9223372036854775807 := by simp only [maxLen] at h63; omega
  have hlen : (xs ++ [new]).length = (n + 1) * 1 := by rw [List.length_append, hown.1]; simp
  have zc : ∀ k, ∀ u ∈ (Builtin.zeroCells z.cells k).toList, pr u := by
    intro k u hu
    simp [Builtin.zeroCells, hzs, Nat.mod_one] at hu
    rw [← hu.2]; exact hzp
  have grown : ∀ (old : Nat), old < n + 1 → ∀ (row : Option Nat),
      (w.drew.alloc (.cells (xs.toArray ++ [new].toArray ++ Builtin.zeroCells z.cells (grownCap w (n + 1) old e - (n + 1))) e)).ownsRow base e 1
        (.slice (some ⟨w.heap.size, 0, none⟩) (n + 1) (grownCap w (n + 1) old e)) (n + 1) (xs ++ [new]) ∧
      w.grownBy (w.drew.alloc (.cells (xs.toArray ++ [new].toArray ++ Builtin.zeroCells z.cells (grownCap w (n + 1) old e - (n + 1))) e)) row ∧
      RowP pr (w.drew.alloc (.cells (xs.toArray ++ [new].toArray ++ Builtin.zeroCells z.cells (grownCap w (n + 1) old e - (n + 1))) e)) (.slice (some ⟨w.heap.size, 0, none⟩) (n + 1) (grownCap w (n + 1) old e)) := by
    intro old ho row
    have hge := grownCap_ge w (n + 1) old e
    have hcm : grownCap w (n + 1) old e ≤ maxLen := grownCap_le_maxLen w (n + 1) old e h63
    refine ⟨⟨hlen, .inr ⟨w.heap.size, _, _, rfl, hbase, heap_alloc_new w.drew _, hge, hcm, ?_, ?_⟩⟩, ⟨rfl, rfl, rfl, by simp, fun k hk _ => Below.heap_alloc w.drew _ k hk⟩, fun g hg => ?_⟩
    · simp only [Array.size_append, List.size_toArray, size_zeroCells, hzs, hown.1]
      simp
      omega
    · simp only [Array.toList_append, List.append_assoc]
      rw [← List.append_assoc, ← hlen]
      exact List.take_left
    · have : w.heap.size = g := by simpa [Value.ownBlock] using hg
      subst this
      refine ⟨_, e, _, heap_alloc_new w.drew _, fun u hu => ?_⟩
      simp only [Array.toList_append, List.mem_append] at hu
      rcases hu with (hu | hu) | hu
      · exact hxs u hu
      · have : u = new := by simpa using hu
        rw [this]; exact hnp
      · exact zc _ u hu
  rcases hown.2 with ⟨rfl, rfl⟩ | ⟨g, cap, cur, rfl, hbg, hg, hnc, hcm, hcs, htake⟩
  · have hx : xs = [] := List.eq_nil_of_length_eq_zero (by simpa using hown.1)
    subst hx
    have hr := run_append_nil (P := P) w t ty e i z ht hi hz a 1 c [new] hl hnews (by omega) (by omega) (by have hb := hbytes; simp only [Nat.zero_add] at hb; omega)
    have hgr := grown 0 (by omega) (Value.ownBlock (.slice none 0 0))
    simp only [Nat.zero_add, List.nil_append, Array.empty_append] at hgr ⊢
    exact ⟨_, _, hr, hgr.1, hgr.2.1, Or.inr rfl, hgr.2.2⟩
  · by_cases hroom : n + 1 ≤ cap
    · have hfit : n * i.size + [new].length ≤ cur.size := by rw [hl, hsize, hcs, ← Nat.add_mul]; exact Nat.mul_le_mul_right _ hroom
      have hr := run_append_room (P := P) w t ty e i ht hi g n cap cur hg a 1 c [new] hl hnews h1' hroom hfit
      rw [hsize] at hr
      refine ⟨_, _, hr, ⟨hlen, .inr ⟨g, cap, _, rfl, hbg, setRow_heap w g cur _ e _ hg, hroom, hcm, ?_, ?_⟩⟩, ⟨rfl, rfl, rfl, by simp, fun k _ hk => setRow_other w g k _ (fun e => hk (by simp [Value.ownBlock, e]))⟩, Or.inl rfl, fun g' hg' => ?_⟩
      · rw [hsize] at hfit
        simp only [List.size_toArray, List.length_append, List.length_take, List.length_drop, Array.length_toList]
        omega
      · rw [htake, ← hlen]
        exact List.take_left
      · have : g = g' := by simpa [Value.ownBlock] using hg'
        subst this
        refine ⟨_, e, _, setRow_heap w g cur _ e _ hg, fun u hu => ?_⟩
        obtain ⟨cur', e', fr', q1, q2⟩ := hp g rfl
        rw [hg] at q1
        injection q1 with q1
        injection q1 with q1
        subst q1
        have hu : u ∈ (cur.toList.take (n * 1) ++ [new]) ++ cur.toList.drop (n * 1 + [new].length) := by simpa using hu
        rcases List.mem_append.1 hu with hu | hu
        · rcases List.mem_append.1 hu with hu | hu
          · exact q2 u (List.mem_of_mem_take hu)
          · have : u = new := by simpa using hu
            rw [this]; exact hnp
        · exact q2 u (List.mem_of_mem_drop hu)
    · have holds : ∀ j u, xs[j]? = some u → w.cell? ((⟨g, 0, none⟩ : Addr).add j) = some u := hown.cells (g := g) rfl
      have hr := run_append_grow (P := P) w t ty e i z ht hi hz ⟨g, 0, none⟩ n cap xs (by rw [hsize]; exact hown.1) holds a 1 c [new] hl hnews (by omega) (by omega) (growslice_fits (by omega) hbytes)
      have hgr := grown cap (by omega) (Value.ownBlock (.slice (some ⟨g, 0, none⟩) n cap))
      exact ⟨_, _, hr, hgr.1, hgr.2.1, Or.inr rfl, hgr.2.2⟩
theorem wpList_append_P {ops : Array Oper} {rest : List Oper} {o : Oper} {a : Act} {Q : Exit → Act → World → Prop} (hgd : o.guard = none) (s x : Operand) (t : TypeId)
    (ho : o.op = .call { callee := .builtin .append, args := #[s, x], argTypes := #[t, t] })
    (pr : Value → Prop) (base : Nat) (e : TypeId) (i : TypeInfo) (z : Value) (bytes : Nat) (ht : P.underlying t = some (.slice e)) (hi : P.info? e = some i) (hz : i.zero = some z)
    (hsize : i.size = 1) (hby : i.bytes = bytes) (hzs : z.cells = #[z]) (hzp : pr z)
    (v : Value) (n : Nat) (xs : List Value) (hs : a.eval s = v) (hown : w.ownsRow base e 1 v n xs) (hp : RowP pr w v) (hxs : ∀ u ∈ xs, pr u)
    (ad : Addr) (c : Nat) (new : Value) (hx : a.eval x = .slice (some ad) 1 c) (hnew : w.cell? ad = some new) (h1 : new.oneCell' = true) (hnp : pr new)
    (h63 : n + 1 ≤ maxLen) (hbytes : (n + 1) * bytes ≤ 140737488355328) (hbase : base ≤ w.heap.size)
    (h : ∀ v' w', w'.ownsRow base e 1 v' (n + 1) (xs ++ [new]) → w.grownBy w' v.ownBlock → (v'.ownBlock = v.ownBlock ∨ v'.ownBlock = some w.heap.size) → RowP pr w' v' → wpList P ops Q rest (a.put o.dst v') w') :
    wpList P ops Q (o :: rest) a w := by
  refine wpList_plain hgd fun K hK => ?_
  obtain ⟨v', w', hr, h2, h3, h4, h5⟩ := run_append_P (P := P) w pr base t o.type e i z bytes ht hi hz hsize hby hzs hzp v n xs hown hp hxs ad c new hnew h1 hnp h63 hbytes hbase
  unfold Oper.wp execOp
  simp only [ho, resolve, invoke, builtin, Sem.run_bind, Sem.run_pure, Result.andThen_ok, List.map_toArray, List.map_cons, List.map_nil, hs, hx, hr]
  exact hK _ _ (h v' w' h2 h3 h4 h5)
end
end Go.Proofs.YtjbepnkchoaipaaGreat
/- Law 31: the law's rows in memory. -/
namespace Go.Proofs.YtjbepnkchoaipaaGreat
open Go.RowKit Go.Lib Go.Maps Go.WideMaps Go.Sort
set_option maxRecDepth 100000
abbrev nmI (n : Nat) : Value := .int .i64 (n : Nat)
theorem Tryz.infoRw : (Tryz.prog.info? 108).map (fun i => (i.zero, i.size, i.bytes)) = some (some (.agg #[.int .i64 0, .string ⟨#[]⟩]), 2, 24) := by kernel_rfl
def rwCells (l : List (Nat × J.B)) : List Value := l.flatMap fun p => [nmI p.1, encStr p.2]
theorem rwCells_len (l : List (Nat × J.B)) : (rwCells l).length = l.length * 2 := by induction l with | nil => rfl | cons a t ih => simp [rwCells] at *; omega
theorem rwCells_app (a b : List (Nat × J.B)) : rwCells (a ++ b) = rwCells a ++ rwCells b := by simp [rwCells]
theorem rwCells_get : ∀ (l : List (Nat × J.B)) (k : Nat) (h : k < l.length), (rwCells l)[k * 2]? = some (nmI l[k].1) ∧ (rwCells l)[k * 2 + 1]? = some (encStr l[k].2)
  | [], k, h => by simp at h
  | a :: t, 0, h => ⟨rfl, rfl⟩
  | a :: t, k + 1, h => by
    have := rwCells_get t k (by simpa using h)
    rw [show (k + 1) * 2 = k * 2 + 2 by omega]
    simpa [rwCells] using this
theorem rwCells_one (l : List (Nat × J.B)) : ∀ u ∈ rwCells l, u.oneCell' = true := by
  intro u hu
  simp only [rwCells, List.mem_flatMap, List.mem_cons, List.not_mem_nil, or_false] at hu
  obtain ⟨p, _, rfl | rfl⟩ := hu <;> rfl
theorem rwCells_drop (l : List (Nat × J.B)) (i : Nat) : rwCells (l.drop i) = (rwCells l).drop (i * 2) := by
  induction i generalizing l with
  | zero => simp
  | succ i ih =>
    cases l with
    | nil => simp [rwCells]
    | cons a t => rw [List.drop_succ_cons, ih, show (i + 1) * 2 = i * 2 + 2 by omega]; simp [rwCells]
/-- The pairs of a slice at an address. -/
def RwsO (w : World) (A : Option Addr) (l : List (Nat × J.B)) : Prop := 0 < l.length → ∃ g o, A = some ⟨g, o, none⟩ ∧ g < w.heap.size ∧ ∀ j u, (rwCells l)[j]? = some u → w.cell? ⟨g, o + j, none⟩ = some u
/-- .. at the beginning of a block. -/
def RwsAt (w : World) (A : Option Addr) (l : List (Nat × J.B)) : Prop := 0 < l.length → ∃ g, A = some ⟨g, 0, none⟩ ∧ g < w.heap.size ∧ ∀ j u, (rwCells l)[j]? = some u → w.cell? ⟨g, j, none⟩ = some u
theorem RwsAt.o {w : World} {A : Option Addr} {l : List (Nat × J.B)} (h : RwsAt w A l) : RwsO w A l := fun hn => by
  obtain ⟨g, e, h1, h2⟩ := h hn
  exact ⟨g, 0, e, h1, fun j u hu => by rw [Nat.zero_add]; exact h2 j u hu⟩
theorem RwsO.below {w w' : World} {A : Option Addr} {l : List (Nat × J.B)} (h : RwsO w A l) (hb : Below w.heap.size w w') : RwsO w' A l := fun hn => by
  obtain ⟨g, o, e, h1, h2⟩ := h hn
  exact ⟨g, o, e, Nat.lt_of_lt_of_le h1 hb.size, fun j u hu => (hb.cell (p := ⟨g, o + j, none⟩) h1).trans (h2 j u hu)⟩
/-- A value that is a slice of pairs; its block is not in M. -/
def Rws (w : World) (M : Nat → Prop) (v : Value) (l : List (Nat × J.B)) : Prop :=
  (v = .slice none 0 0 ∧ l = []) ∨ ∃ g c, v = .slice (some ⟨g, 0, none⟩) l.length c ∧ l.length ≤ c ∧ g < w.heap.size ∧ ¬ M g ∧ ∀ j u, (rwCells l)[j]? = some u → w.cell? ⟨g, j, none⟩ = some u
section
variable {w w' : World} {M M' : Nat → Prop} {v : Value} {l : List (Nat × J.B)}
theorem Rws.nil_ : Rws w M (.slice none 0 0) [] := .inl ⟨rfl, rfl⟩
theorem Rws.step (h : Rws w M v l) (hs : Step M M' w w') : Rws w' M' v l := by
  rcases h with h | ⟨g, c, e, h1, h2, h3, h4⟩
  · exact .inl h
  · exact .inr ⟨g, c, e, h1, Nat.lt_of_lt_of_le h2 hs.size, fun h => h3 (hs.sub g h2 h), fun j u hu => (hs.cell (a := ⟨g, j, none⟩) h2 h3).trans (h4 j u hu)⟩
theorem Rws.weak (h : Rws w M v l) (hM : ∀ k, M' k → M k) : Rws w M' v l := by
  rcases h with h | ⟨g, c, e, h1, h2, h3, h4⟩
  · exact .inl h
  · exact .inr ⟨g, c, e, h1, h2, fun h => h3 (hM g h), h4⟩
theorem Rws.slice_ (h : Rws w M v l) : ∃ A c, v = .slice A l.length c ∧ l.length ≤ c ∧ RwsAt w A l ∧ (A = none → c = 0) ∧ (∀ b o, A = some ⟨b, o, none⟩ → o = 0) := by
  rcases h with ⟨rfl, rfl⟩ | ⟨g, c, rfl, h1, h2, h3, h4⟩
  · exact ⟨none, 0, rfl, Nat.le_refl _, fun h => absurd h (by simp), fun _ => rfl, fun _ _ e => by cases e⟩
  · exact ⟨_, c, rfl, h1, fun _ => ⟨g, rfl, h2, h4⟩, fun e => (by cases e), fun b o e => by injection e with e; injection e with _ e; exact e.symm⟩
/-- A row of one's own is pairs that are read. -/
theorem own_rws {base : Nat} (h : w.ownsRow base 108 2 v l.length (rwCells l)) (hM : ∀ k, M k → k < base) : Rws w M v l := by
  have h' := h
  rcases h.2 with ⟨rfl, h0⟩ | ⟨g, cap, cur, rfl, hbase, hb, h1, h2⟩
  · exact .inl ⟨by rfl, List.eq_nil_of_length_eq_zero h0⟩
  · refine .inr ⟨g, cap, rfl, h1, (Array.getElem?_eq_some_iff.1 hb).1, fun hm => by have := hM g hm; omega, fun j u hu => ?_⟩
    have hj : j < l.length * 2 := by
      have := (List.getElem?_eq_some_iff.1 hu).1
      rw [rwCells_len] at this; exact this
    rw [h'.cellAt j hj, hu]
end
/-- append of pairs: v a row of one's own, from pairs that are read. -/
theorem run_append_rws (w : World) (base : Nat) (v : Value) (n : Nat) (l : List (Nat × J.B)) (hown : w.ownsRow base 108 2 v n (rwCells l)) (A : Option Addr) (m c : Nat) (x : List (Nat × J.B)) (hx : RwsO w A x) (hm : x.length = m)
    (hb : n + m ≤ 100000000) (hbase : base ≤ w.heap.size) (ty : TypeId) :
    ∃ v' w', (Builtin.append_ #[56, 56] ty #[v, .slice A m c]).run Tryz.prog w = .ok v' w' ∧ w'.ownsRow base 108 2 v' (n + m) (rwCells (l ++ x)) ∧ w.grownBy w' v.ownBlock ∧ (v'.ownBlock = v.ownBlock ∨ v'.ownBlock = some w.heap.size) := by
  obtain ⟨i0, hi, hz0, hz1, hz2⟩ := info_parts Tryz.infoRw
  rcases Nat.eq_zero_or_pos m with h0 | h0
  · subst h0
    obtain rfl : x = [] := List.eq_nil_of_length_eq_zero hm
    exact ⟨v, w, run_append_of_nil w base _ ty _ i0 2 Tryz.underlying56 hi v n _ hown A c, by simpa using hown, World.grownBy.refl w _, .inl rfl⟩
  · obtain ⟨g, o, rfl, _, hc⟩ := hx (by omega)
    obtain ⟨v', w', hr, h1, h2, _, h4⟩ := run_append_own_at (P := Tryz.prog) w base 56 ty 108 i0 (.agg #[.int .i64 0, .string ⟨#[]⟩]) 2 24 Tryz.underlying56 hi hz0 hz1 hz2 rfl (by decide) v n (rwCells l) hown ⟨g, o, none⟩ m c (rwCells x) (by rw [rwCells_len, hm])
      (fun j u hu => by rw [add_mk]; exact hc j u hu) (rwCells_one x) (by unfold maxLen; omega) (by omega) hbase
    exact ⟨v', w', hr, by rw [rwCells_app]; exact h1, h2, h4⟩
/-- A slice expression on pairs, at every world. -/
theorem run_slice_rws {A : Option Addr} {l : List (Nat × J.B)} {n c : Nat} (hn : l.length = n) (i j : Nat) (hij : i ≤ j) (hj : j ≤ n) (hc : n ≤ c) (low high : Option Value)
    (hlow : low = some (.int .i64 i) ∨ (low = none ∧ i = 0)) (hhigh : high = some (.int .i64 j) ∨ (high = none ∧ j = n)) (hA : ∀ b o, A = some ⟨b, o, none⟩ → o = 0) :
    ∃ A', (∀ w, (Instr.sliceAt 56 (.slice A n c) low high none).run Tryz.prog w = .ok (.slice A' (j - i) (c - i)) w) ∧ ∀ w, RwsAt w A l → RwsO w A' ((l.take j).drop i) := by
  have hb : ∀ w, (Instr.sliceBounds true n c low high none).run Tryz.prog w = .ok (i, j, c) w := by
    intro w
    have e1 : (0 : Int) ≤ (i : Int) := by omega
    have e2 : (i : Int) ≤ (j : Int) := by omega
    have e3 : (j : Int) ≤ (c : Int) := by omega
    have e0 : (0 : Int) ≤ (j : Int) := by omega
    rcases hlow with rfl | ⟨rfl, rfl⟩ <;> rcases hhigh with rfl | ⟨rfl, rfl⟩
    · simp [Instr.sliceBounds, run_sliceBound _ _ _ _ _ e1 e2, run_sliceBound _ _ _ _ _ e0 e3]
    · simp [Instr.sliceBounds, run_sliceBound _ _ _ _ _ e1 e2]
    · simp [Instr.sliceBounds, run_sliceBound _ _ _ _ _ e0 e3]
    · simp [Instr.sliceBounds]
  have hsz : ∀ w, (sizeOf (Tryz.prog.elem 56)).run Tryz.prog w = .ok 2 w := fun w => by kernel_rfl
  have hrun : ∀ w, (Instr.sliceAt 56 (.slice A n c) low high none).run Tryz.prog w = .ok (sliced A i j c 2) w := by
    intro w
    rw [run_sliceAt_slice _ _ _ _ _ _ Tryz.underlying56, run_slice_any _ _ _ _ _ Tryz.underlying56, hb]
    simp [Result.andThen, hsz]
  refine ⟨_, hrun, fun w h hlen => ?_⟩
  rw [List.length_drop, List.length_take] at hlen
  obtain ⟨g, rfl, hg, hcl⟩ := h (by omega)
  refine ⟨g, i * 2, ?_, hg, fun k u hu => ?_⟩
  · rw [if_neg (by omega)]; simp [add_mk]
  · rw [rwCells_drop, List.getElem?_drop] at hu
    refine hcl _ _ ?_
    have hk := (List.getElem?_eq_some_iff.1 hu).1
    rw [← hu]
    conv => lhs; rw [← List.take_append_drop j l, rwCells_app]
    rw [List.getElem?_append_left hk]
theorem empty_rws {base : Nat} (X : World) (hb : base ≤ X.heap.size) : (X.alloc (.cells #[] 108)).ownsRow base 108 2 (.slice (some ⟨X.heap.size, 0, none⟩) 0 0) 0 (rwCells []) :=
  ⟨rfl, .inr ⟨X.heap.size, 0, #[], rfl, hb, heap_alloc_new X _, Nat.le_refl _, Nat.zero_le _, rfl, rfl⟩⟩
theorem tmp_rws (X : World) (k : Nat) (val : J.B) : RwsO (X.alloc (.cells #[nmI k, encStr val] 108)) (some ⟨X.heap.size, 0, none⟩) [(k, val)] := fun _ => by
  refine ⟨X.heap.size, 0, rfl, by simp, fun j u hu => ?_⟩
  rw [Nat.zero_add, cell_of_row _ X.heap.size j _ _ _ (heap_alloc_new X _)]
  rw [← hu]
  simp [rwCells]
theorem RwsO.kept {w w' : World} {g : Nat} {l : List (Nat × J.B)} {row : Option Nat} (h : RwsO w (some ⟨g, 0, none⟩) l) (hg : w.grownBy w' row) (hne : some g ≠ row) : RwsO w' (some ⟨g, 0, none⟩) l := fun hn => by
  obtain ⟨g', o, e, h1, h2⟩ := h hn
  injection e with e
  injection e with e1 e2 e3
  subst e1 e2
  exact ⟨g, 0, rfl, Nat.lt_of_lt_of_le h1 hg.size, fun j u hu => (World.cell?_of_block (hg.block g h1 hne)).trans (h2 j u hu)⟩
end Go.Proofs.YtjbepnkchoaipaaGreat
/- Law 31: the law's model: modes, at, put, open. -/
namespace Go.Proofs.YtjbepnkchoaipaaGreat
open Go.RowKit Go.Lib Go.Maps Go.WideMaps Go.Sort
set_option maxRecDepth 100000
/-- The law's model at its block. -/
abbrev modO (rel : Bool) (size : Nat) (there : Bool) (v : Value) (mode nxt last : Nat) : Obj :=
  .cells #[.bool rel, .int .i64 (size : Nat), .bool there, v, .int .u8 (mode : Nat), .int .i64 (nxt : Nat), .int .i64 (last : Nat)] 58 (0, 0)
def MdR (w : World) (q : Nat) (M : Nat → Prop) (m : R.M) : Prop := ∃ v, w.heap[q]? = some (modO m.rel m.size m.there v m.mode m.next m.last) ∧ Rws w M v m.rows
/-- What modes answers. -/
def mds (wrong : J.B) (need : Bool) (a b : Nat) (rel : Bool) (mode : Nat) : J.B :=
  if need && !rel then [51, 48] else if mode = 0 then [52, 50] else if mode ≠ a ∧ mode ≠ b then wrong else []
theorem mds_ok {wrong : J.B} {need : Bool} {a b : Nat} {rel : Bool} {mode : Nat} (h : chk wrong need a b rel mode = R.good) (hw : wrong ≠ R.good) : mds wrong need a b rel mode = [] := by
  unfold chk at h
  unfold mds
  split
  · rename_i h1; rw [if_pos h1] at h; exact absurd h (by decide)
  · rename_i h1; rw [if_neg h1] at h
    split
    · rename_i h2; rw [if_pos h2] at h; exact absurd h (by decide)
    · rename_i h2; rw [if_neg h2] at h
      split
      · rename_i h3; rw [if_pos h3] at h; exact absurd h hw
      · rfl
theorem mds_no {wrong : J.B} {need : Bool} {a b : Nat} {rel : Bool} {mode : Nat} (h : chk wrong need a b rel mode ≠ R.good) : mds wrong need a b rel mode = chk wrong need a b rel mode := by
  unfold chk at h ⊢
  unfold mds
  split
  · rfl
  · rename_i h1; rw [if_neg h1] at h
    split
    · rfl
    · rename_i h2; rw [if_neg h2] at h
      split
      · rfl
      · rename_i h3; rw [if_neg h3] at h; exact absurd rfl h
section
variable {w w' : World} {q : Nat} {M : Nat → Prop} {m : R.M} {rel there : Bool} {size mode nxt last : Nat} {v : Value}
theorem Rws.grown {l : List (Nat × J.B)} (h : Rws w M v l) (hq : ∀ n, w.cell? ⟨q, 0, none⟩ ≠ some (nmI n)) (hg : w.grownBy w' (some q)) : Rws w' M v l := by
  rcases h with h | ⟨g, c, e, h1, h2, h3, h4⟩
  · exact .inl h
  · refine .inr ⟨g, c, e, h1, Nat.lt_of_lt_of_le h2 hg.size, h3, fun j u hu => ?_⟩
    have hne : g ≠ q := by
      rintro rfl
      cases l with
      | nil => simp [rwCells] at hu
      | cons a t => exact hq a.1 (h4 0 _ rfl)
    exact (World.cell?_of_block (hg.block g h2 (fun e => hne (by injection e)))).trans (h4 j u hu)
theorem mod_cell0 (h : w.heap[q]? = some (modO rel size there v mode nxt last)) (n : Nat) : w.cell? ⟨q, 0, none⟩ ≠ some (nmI n) := by
  rw [cell_of_row w q 0 _ _ _ h]
  intro e
  simp at e
theorem MdR.row (h : MdR w q M m) : ∃ v, w.heap[q]? = some (modO m.rel m.size m.there v m.mode m.next m.last) ∧ Rws w M v m.rows := h
theorem modes_any (h : w.heap[q]? = some (modO rel size there v mode nxt last)) (wrong : J.B) (need : Bool) (a b : Nat) :
    Calls Tryz.prog 79 #[.pointer (some ⟨q, 0, none⟩), .string ⟨wrong.toArray⟩, .bool need, .int .u8 (a : Nat), .int .u8 (b : Nat)] w fun e w' => e = .returned (.string ⟨(mds wrong need a b rel mode).toArray⟩) ∧ w = w' := by
  have hc := fun j => cell_of_row w q j _ _ _ h
  clear h
  unfold mds
  by_cases hn : (need && !rel) = true
  · obtain ⟨rfl, rfl⟩ : need = true ∧ rel = false := by cases need <;> cases rel <;> simp_all
    clear hn
    go_enter Tryz.func79, Tryz.ntmps79
    go_wp2
    go_ret
    exact ⟨rfl, rfl⟩
  · rw [if_neg hn]
    have hn : (need && !rel) = false := by simpa using hn
    by_cases h0 : mode = 0
    · rw [if_pos h0]
      subst h0
      cases need <;> cases rel <;> first | (exact absurd hn (by decide)) | skip
      all_goals
        clear hn
        go_enter Tryz.func79, Tryz.ntmps79
        go_wp2
        go_ret
        exact ⟨rfl, rfl⟩
    · rw [if_neg h0]
      have k0 : ¬ ((mode : Int) = 0) := by omega
      by_cases h2 : mode ≠ a ∧ mode ≠ b
      · rw [if_pos h2]
        have k1 : ((mode : Int) != (a : Int)) = true := by simp; omega
        have k2 : ((mode : Int) != (b : Int)) = true := by simp; omega
        cases need <;> cases rel <;> first | (exact absurd hn (by decide)) | skip
        all_goals
          clear hn h2 h0
          go_enter Tryz.func79, Tryz.ntmps79
          go_wp2
          go_ret
          exact ⟨rfl, rfl⟩
      · rw [if_neg h2]
        have h3 : mode = a ∨ mode = b := by omega
        rcases h3 with rfl | rfl
        all_goals
          cases need <;> cases rel <;> first | (exact absurd hn (by decide)) | skip
          all_goals
            clear hn h2 h0
            go_enter Tryz.func79, Tryz.ntmps79
            go_wp2
            all_goals
              go_ret
              exact ⟨rfl, rfl⟩
/-- The index of a record. -/
theorem mat_any (h : w.heap[q]? = some (modO rel size there v mode nxt last)) (l : List (Nat × J.B)) (hv : Rws w M v l) (hl : l.length ≤ 1000000) (k : Int) :
    Calls Tryz.prog 80 #[.pointer (some ⟨q, 0, none⟩), .int .i64 k] w fun e w' => (∃ z : Int, e = .returned (.int .i64 z) ∧ ((∃ (j : Nat) (hj : j < l.length), z = j ∧ (l[j].1 : Int) = k) ∨ (z = -1 ∧ ∀ r ∈ l, (r.1 : Int) ≠ k))) ∧ w = w' := by
  have hc := fun j => cell_of_row w q j _ _ _ h
  obtain ⟨A, c, rfl, hlc, hat, _, _⟩ := hv.slice_
  have HA := Lib.hid hat
  clear h hat hv
  go_enter Tryz.func80, Tryz.ntmps80
  go_wp2
  go_loopw [5] (fun i wr => ∃ j : Nat, j ≤ l.length ∧ i = .int .i64 j ∧ wr = w ∧ ∀ t (ht : t < l.length), t < j → (l[t].1 : Int) ≠ k) (fun i _ => l.length - (intOf i).toNat)
  case atStart => exact ⟨0, Nat.zero_le _, rfl, rfl, fun t _ h => absurd h (Nat.not_lt_zero t)⟩
  case round =>
    obtain ⟨j, hj, rfl, rfl, hno⟩ := hrel
    have HNO := Lib.hid hno
    clear hno
    by_cases hlt : j < l.length
    · obtain ⟨g, rfl, hg, hcells⟩ := HA.out (by omega)
      obtain ⟨c0, c1⟩ := rwCells_get l j hlt
      have hc0 : wr.cell? ⟨g, j * 2, none⟩ = some (nmI l[j].1) := hcells _ _ c0
      have HE := Lib.hid (show l[j].1 = l[j].1 from rfl)
      have HLT := Lib.hid hlt
      clear hcells c0 c1
      by_cases he : (l[j].1 : Int) = k
      · have HK := Lib.hid he
        generalize hx : l[j].1 = x at hc0 he
        subst he
        have HX := Lib.hid hx
        clear hx HE
        go_wp2_with fail
        go_ret
        exact ⟨⟨_, rfl, .inl ⟨j, HLT.out, rfl, HK.out⟩⟩, rfl⟩
      · have HK := Lib.hid he
        generalize hx : l[j].1 = x at hc0 he
        have HX := Lib.hid hx
        clear hx HE
        go_wp2_with fail
        go_roundw
        case rel =>
          refine ⟨j + 1, HLT.out, by go_num, trivial, fun t ht htj => ?_⟩
          by_cases e : t = j
          · subst e; exact HK.out
          · exact HNO.out t ht (by omega)
        case measure => have := HLT.out; simp [intOf]; omega
    · obtain rfl : j = l.length := by omega
      go_wp2
      go_ret
      refine ⟨⟨_, rfl, .inr ⟨rfl, fun r hr => ?_⟩⟩, rfl⟩
      obtain ⟨t, ht, rfl⟩ := List.getElem_of_mem hr
      exact HNO.out t ht ht
end
end Go.Proofs.YtjbepnkchoaipaaGreat
/- Law 31: the law's model: put, open. -/
namespace Go.Proofs.YtjbepnkchoaipaaGreat
open Go.RowKit Go.Lib Go.Maps Go.WideMaps Go.Sort
set_option maxRecDepth 100000
theorem tw_spec {α : Type} (f : α → Bool) : ∀ (L : List α), L.takeWhile f = L.take (L.takeWhile f).length ∧ (L.takeWhile f).length ≤ L.length ∧ (∀ j (h : j < L.length), j < (L.takeWhile f).length → f L[j] = true) ∧ (∀ h : (L.takeWhile f).length < L.length, f L[(L.takeWhile f).length] = false)
  | [] => ⟨rfl, Nat.le_refl _, fun j h => absurd h (by simp), fun h => absurd h (by simp)⟩
  | a :: t => by
    obtain ⟨h1, h3, h4, h5⟩ := tw_spec f t
    by_cases ha : f a = true
    · rw [List.takeWhile_cons_of_pos ha]
      refine ⟨by rw [List.length_cons, List.take_succ_cons, ← h1], by simp; exact h3, fun j hj hlt => ?_, fun h => ?_⟩
      · cases j with
        | zero => exact ha
        | succ j => exact h4 j (by simpa using hj) (by simpa using hlt)
      · exact h5 (by simpa using h)
    · rw [List.takeWhile_cons_of_neg ha]
      exact ⟨rfl, by simp, fun j hj hlt => absurd hlt (by simp), fun _ => by simpa using ha⟩
theorem asc_while (n : Nat) : ∀ (rows : R.Rows), (rows.Pairwise fun a b => a.1 < b.1) → rows.takeWhile (fun r => decide (r.1 < n)) = rows.filter (fun r => decide (r.1 < n))
  | [], _ => rfl
  | r :: t, h => by
    obtain ⟨h1, h2⟩ := List.pairwise_cons.1 h
    by_cases l : r.1 < n
    · rw [List.takeWhile_cons_of_pos (by simpa using l), List.filter_cons_of_pos (by simpa using l), asc_while n t h2]
    · rw [List.takeWhile_cons_of_neg (by simpa using l), List.filter_cons_of_neg (by simpa using l)]
      exact (List.filter_eq_nil_iff.2 (fun x hx => by have := h1 x hx; simp; omega)).symm
section
variable {w w' : World} {q : Nat} {M : Nat → Prop} {m : R.M} {rel there : Bool} {size mode nxt last : Nat} {v : Value}
set_option maxHeartbeats 2000000 in
theorem mput_any (h : w.heap[q]? = some (modO rel size there v mode nxt last)) (l : List (Nat × J.B)) (hv : Rws w M v l) (hl : l.length ≤ 1000000) (hok : R.RowsOk l) (n : Nat) (b : J.B) :
    Calls Tryz.prog 81 #[.pointer (some ⟨q, 0, none⟩), .int .i64 (n : Nat), .string ⟨b.toArray⟩] w fun e w' => ∃ v', e = .returned v' ∧ w'.ownsRow w.heap.size 108 2 v' (R.put l n b).length (rwCells (R.put l n b)) ∧ Below w.heap.size w w' := by
  obtain ⟨i0, hi, hz0, hz1, hz2⟩ := info_parts Tryz.infoRw
  have hq := (Array.getElem?_eq_some_iff.1 h).1
  have HQ := Lib.hid hq
  have HH := Lib.hid h
  obtain ⟨A, c, rfl, hlc, hat, _, _⟩ := hv.slice_
  have HA := Lib.hid hat
  have hpe := R.put_eq hok n b
  have haw := asc_while n l hok.asc
  obtain ⟨t1, t3, t4, t5⟩ := tw_spec (fun r : Nat × J.B => decide (r.1 < n)) l
  rw [← haw, t1] at hpe
  generalize (l.takeWhile (fun r => decide (r.1 < n))).length = T at hpe t3 t4 t5
  have HPE := Lib.hid hpe
  have T4 := Lib.hid t4
  have T5 := Lib.hid t5
  clear h hat hv hok hpe haw t1 t4 t5 hq
  go_enter Tryz.func81, Tryz.ntmps81
  go_wp2
  go_loopw [7, 8] (fun out i wr => ∃ j : Nat, j ≤ T ∧ i = .int .i64 j ∧ wr.ownsRow w.heap.size 108 2 out j (rwCells (l.take j)) ∧ Below w.heap.size w wr) (fun _ i _ => T - (intOf i).toNat)
  case atStart => exact ⟨0, Nat.zero_le _, rfl, World.ownsRow_nil _ _ _ _, Below.refl _ _⟩
  case round =>
    obtain ⟨j, hj, rfl, hown, hB⟩ := hrel
    have HB := Lib.hid hB
    have HO := Lib.hid hown
    have hc := fun j => cell_of_row wr q j _ _ _ ((hB.block q HQ.out).trans HH.out)
    clear hB hown
    by_cases hjT : j < T
    · have hlt : j < l.length := by omega
      obtain ⟨g, rfl, hg, hcells⟩ := HA.out (by omega)
      obtain ⟨c0, c1⟩ := rwCells_get l j hlt
      have hc0 : wr.cell? ⟨g, j * 2, none⟩ = some (nmI l[j].1) := (HB.out.cell (p := ⟨g, j * 2, none⟩) hg).trans (hcells _ _ c0)
      have hc1 : wr.cell? ⟨g, j * 2 + 1, none⟩ = some (encStr l[j].2) := (HB.out.cell (p := ⟨g, j * 2 + 1, none⟩) hg).trans (hcells _ _ c1)
      have h4 := T4.out j hlt hjT
      have h4' : (l[j].1 : Int) < (n : Int) := by simp at h4; omega
      have HDS := Lib.hid (List.take_succ_eq_append_getElem hlt)
      clear hcells c0 c1 h4
      generalize l[j] = x at hc0 hc1 HDS h4'
      go_wp2_with (at_builtin; refine wpList_append_own_at _ rfl _ _ 56 rfl w.heap.size 108 i0 _ 2 24 Tryz.underlying56 hi hz0 hz1 hz2 rfl (by decide) _ _ _ rfl (HO.out.alloc _) ⟨wr.heap.size, 0, none⟩ 1 1 [nmI x.1, encStr x.2] rfl rfl (World.news_of_block (heap_alloc_new wr _)) (by simp [Value.oneCell', encStr]) (by unfold maxLen; omega) (by omega) (by have := HB.out.size; simp; omega) ?_)
      intro v' w1 hown' hg3 hnil3 hloc3
      have hb2 : Below w.heap.size w (wr.alloc (.cells #[nmI x.1, encStr x.2] 108)) := HB.out.alloc HB.out.size _
      have HB2 := Lib.hid (hb2.grown hg3 hb2.size (fun j hj => (HO.out.lt j hj).1))
      have ho2 : w1.ownsRow w.heap.size 108 2 v' (j + 1) (rwCells (l.take (j + 1))) := by
        rw [HDS.out, rwCells_app]; exact hown'
      have HO2 := Lib.hid ho2
      clear hb2 ho2 hown' hg3 hnil3 hloc3
      go_wp2_with fail
      go_roundw
      case rel => exact ⟨j + 1, by omega, by go_num, HO2.out, HB2.out⟩
      case measure => simp [intOf]; omega
    · obtain rfl : j = T := by omega
      by_cases hlt : j < l.length
      case' pos =>
        obtain ⟨g, rfl, hg, hcells⟩ := HA.out (by omega)
        obtain ⟨c0, _⟩ := rwCells_get l j hlt
        have hc0 : wr.cell? ⟨g, j * 2, none⟩ = some (nmI l[j].1) := (HB.out.cell (p := ⟨g, j * 2, none⟩) hg).trans (hcells _ _ c0)
        have h5 := T5.out hlt
        have h5' : ¬ (l[j].1 : Int) < (n : Int) := by simp at h5; omega
        clear hcells c0 h5
        generalize l[j] = x at hc0 h5'
      all_goals
        go_wp2_with (at_builtin; refine wpList_append_own_at _ rfl _ _ 56 rfl w.heap.size 108 i0 _ 2 24 Tryz.underlying56 hi hz0 hz1 hz2 rfl (by decide) _ _ _ rfl (HO.out.alloc _) ⟨wr.heap.size, 0, none⟩ 1 1 [nmI n, encStr b] rfl rfl (World.news_of_block (heap_alloc_new wr _)) (by simp [Value.oneCell', encStr]) (by unfold maxLen; omega) (by omega) (by have := HB.out.size; simp; omega) ?_)
        intro v' w1 hown' hg3 hnil3 hloc3
        have hb2 : Below w.heap.size w (wr.alloc (.cells #[nmI n, encStr b] 108)) := HB.out.alloc HB.out.size _
        have HB2 := Lib.hid (hb2.grown hg3 hb2.size (fun j hj => (HO.out.lt j hj).1))
        have hr0 : R.put l n b = l.take j ++ (n, b) :: l.filter (fun r => decide (n < r.1)) := HPE.out
        have ho2 : w1.ownsRow w.heap.size 108 2 v' (j + 1 + ((l.take 0).filter (fun r => decide (n < r.1))).length) (rwCells (l.take j ++ (n, b) :: (l.take 0).filter (fun r => decide (n < r.1)))) := by
          have e : rwCells (l.take j ++ (n, b) :: (l.take 0).filter (fun r => decide (n < r.1))) = rwCells (l.take j) ++ [nmI n, encStr b] := by rw [rwCells_app]; rfl
          rw [e]; exact hown'
        have HO2 := Lib.hid ho2
        have HR0 := Lib.hid hr0
        clear hb2 ho2 hown' hg3 hnil3 hloc3 HB HO hc HPE hr0 T4 T5
        go_wp2_with fail
        go_loopw [7, 9] (fun out i wr => ∃ k : Nat, k ≤ l.length ∧ i = .int .i64 k ∧ wr.ownsRow w.heap.size 108 2 out (j + 1 + ((l.take k).filter (fun r => decide (n < r.1))).length) (rwCells (l.take j ++ (n, b) :: (l.take k).filter (fun r => decide (n < r.1)))) ∧ Below w.heap.size w wr) (fun _ i _ => l.length - (intOf i).toNat)
        case atStart => exact ⟨0, Nat.zero_le _, rfl, HO2.out, HB2.out⟩
        case round =>
          clear HO2 HB2
          obtain ⟨k, hk, rfl, hown, hB⟩ := hrel
          have HB := Lib.hid hB
          have HO := Lib.hid hown
          have hc := fun j => cell_of_row wr q j _ _ _ ((hB.block q HQ.out).trans HH.out)
          clear hB hown
          by_cases hlt2 : k < l.length
          · obtain ⟨g, e2, hg2, hcells⟩ := HA.out (by omega)
            cases e2
            obtain ⟨c0, c1⟩ := rwCells_get l k hlt2
            have hc0 : wr.cell? ⟨g, k * 2, none⟩ = some (nmI l[k].1) := (HB.out.cell (p := ⟨g, k * 2, none⟩) hg2).trans (hcells _ _ c0)
            have hc1 : wr.cell? ⟨g, k * 2 + 1, none⟩ = some (encStr l[k].2) := (HB.out.cell (p := ⟨g, k * 2 + 1, none⟩) hg2).trans (hcells _ _ c1)
            have HDS := Lib.hid (List.take_succ_eq_append_getElem hlt2)
            have hfl : ((l.take k).filter (fun r => decide (n < r.1))).length ≤ k := Nat.le_trans (List.length_filter_le _ _) (by rw [List.length_take]; omega)
            clear hcells c0 c1
            generalize l[k] = y at hc0 hc1 HDS
            by_cases hk2 : n < y.1
            · have hk3 : (n : Int) < (y.1 : Int) := by omega
              have HK2 := Lib.hid hk2
              go_wp2_with (at_builtin; refine wpList_append_own_at _ rfl _ _ 56 rfl w.heap.size 108 i0 _ 2 24 Tryz.underlying56 hi hz0 hz1 hz2 rfl (by decide) _ _ _ rfl (HO.out.alloc _) ⟨wr.heap.size, 0, none⟩ 1 1 [nmI y.1, encStr y.2] rfl rfl (World.news_of_block (heap_alloc_new wr _)) (by simp [Value.oneCell', encStr]) (by unfold maxLen; omega) (by omega) (by have := HB.out.size; simp; omega) ?_)
              intro v3 w3 hown3 hg3 hnil3 hloc3
              have hb3 : Below w.heap.size w (wr.alloc (.cells #[nmI y.1, encStr y.2] 108)) := HB.out.alloc HB.out.size _
              have HB3 := Lib.hid (hb3.grown hg3 hb3.size (fun j hj => (HO.out.lt j hj).1))
              have ho3 : w3.ownsRow w.heap.size 108 2 v3 (j + 1 + ((l.take (k + 1)).filter (fun r => decide (n < r.1))).length) (rwCells (l.take j ++ (n, b) :: (l.take (k + 1)).filter (fun r => decide (n < r.1)))) := by
                have e : (l.take (k + 1)).filter (fun r => decide (n < r.1)) = (l.take k).filter (fun r => decide (n < r.1)) ++ [y] := by rw [HDS.out, List.filter_append, List.filter_cons_of_pos (by simpa using HK2.out)]; rfl
                have e2 : rwCells (l.take j ++ (n, b) :: ((l.take k).filter (fun r => decide (n < r.1)) ++ [y])) = rwCells (l.take j ++ (n, b) :: (l.take k).filter (fun r => decide (n < r.1))) ++ [nmI y.1, encStr y.2] := by
                  rw [show l.take j ++ (n, b) :: ((l.take k).filter (fun r => decide (n < r.1)) ++ [y]) = (l.take j ++ (n, b) :: (l.take k).filter (fun r => decide (n < r.1))) ++ [y] by simp, rwCells_app]; rfl
                rw [e, e2, List.length_append]; exact hown3
              have HO3 := Lib.hid ho3
              clear hb3 ho3 hown3 hg3 hnil3 hloc3
              go_wp2_with fail
              go_roundw
              case rel => exact ⟨k + 1, by omega, by go_num, HO3.out, HB3.out⟩
              case measure => simp [intOf]; omega
            · have hk3 : ¬ (n : Int) < (y.1 : Int) := by omega
              have HK2 := Lib.hid hk2
              have e : (l.take (k + 1)).filter (fun r => decide (n < r.1)) = (l.take k).filter (fun r => decide (n < r.1)) := by rw [HDS.out, List.filter_append, List.filter_cons_of_neg (by simpa using HK2.out)]; simp
              have HE := Lib.hid e
              clear e
              go_wp2_with fail
              go_roundw
              case rel => exact ⟨k + 1, by omega, by go_num, by rw [HE.out]; exact HO.out, HB.out⟩
              case measure => simp [intOf]; omega
          · obtain rfl : k = l.length := by omega
            have ho := HO.out
            rw [List.take_length, ← HR0.out] at ho
            have he : (R.put l n b).length = j + 1 + (l.filter (fun r => decide (n < r.1))).length := by rw [HR0.out]; simp; omega
            rw [← he] at ho
            have HOF := Lib.hid ho
            clear ho he
            go_wp2
            go_ret
            exact ⟨_, rfl, HOF.out, HB.out⟩
end
end Go.Proofs.YtjbepnkchoaipaaGreat
/- Law 31: the law's model: open, start, read. -/
namespace Go.Proofs.YtjbepnkchoaipaaGreat
open Go.RowKit Go.Lib Go.Maps Go.WideMaps Go.Sort
set_option maxRecDepth 100000
section
variable {w w' : World} {q : Nat} {M : Nat → Prop} {m : R.M} {rel there : Bool} {size mode nxt last : Nat} {v : Value}
/-- What an operation of the model leaves. -/
def MR (w : World) (q : Nat) (M : Nat → Prop) (m' : R.M) (w' : World) : Prop := w.grownBy w' (some q) ∧ MdR w' q M m'
theorem mr_same (h : MdR w q M m) : MR w q M m w := ⟨World.grownBy.refl w _, h⟩
theorem mopen_any (h : MdR w q M m) (md : Nat) :
    Calls Tryz.prog 48 #[.pointer (some ⟨q, 0, none⟩), .int .u8 (md : Nat)] w fun e w' => e = .returned (.string ⟨(m.open md).2.toArray⟩) ∧ MR w q M (m.open md).1 w' := by
  have HM := Lib.hid h
  obtain ⟨v, hrow, hv⟩ := h
  have hc := fun j => cell_of_row w q j _ _ _ hrow
  have hz := frozen_row hrow
  have HRW := Lib.hid hrow
  have HV := Lib.hid hv
  clear hrow hv
  unfold R.M.open
  by_cases h1 : md < 1
  · rw [if_pos (.inl h1)]
    have k1 : (md : Int) < 1 := by omega
    go_enter Tryz.func48, Tryz.ntmps48
    go_wp2
    go_ret
    exact ⟨rfl, mr_same HM.out⟩
  · have k1 : ¬ (md : Int) < 1 := by omega
    by_cases h2 : 4 < md
    · rw [if_pos (.inr h2)]
      have k2 : (4 : Int) < (md : Nat) := by omega
      go_enter Tryz.func48, Tryz.ntmps48
      go_wp2
      go_ret
      exact ⟨rfl, mr_same HM.out⟩
    · rw [if_neg (by omega)]
      have k2 : ¬ (4 : Int) < (md : Nat) := by omega
      by_cases h3 : m.mode = 0
      · rw [if_neg (Decidable.not_not.2 h3)]
        have k3 : ¬ (0 : Int) < (m.mode : Nat) := by omega
        by_cases h4 : md = 2
        · subst h4
          rw [if_neg (fun h => h.1 rfl)]
          have HG := Lib.hid (grown_set (grown_set (grown_set (grown_set (grown_set (World.grownBy.refl w (some q)) 2 (.bool true)) 3 (.slice none 0 0)) 4 (.int .u8 2)) 5 (.int .i64 1)) 6 (.int .i64 0))
          have HR := Lib.hid (blk_set (blk_set (blk_set (blk_set (blk_set HRW.out 2 (.bool true)) 3 (.slice none 0 0)) 4 (.int .u8 2)) 5 (.int .i64 1)) 6 (.int .i64 0))
          go_enter Tryz.func48, Tryz.ntmps48
          go_wp2
          go_ret
          exact ⟨rfl, HG.out, _, HR.out, Rws.nil_⟩
        · have k4 : ¬ ((md : Int) = 2) := by omega
          cases ht : m.there with
          | false =>
            rw [if_pos ⟨h4, rfl⟩]
            rw [ht] at hc
            go_enter Tryz.func48, Tryz.ntmps48
            go_wp2
            go_ret
            exact ⟨rfl, mr_same HM.out⟩
          | true =>
            rw [if_neg (fun h => by cases h.2), if_neg h4]
            rw [ht] at hc HRW
            have HG := Lib.hid (grown_set (grown_set (grown_set (World.grownBy.refl w (some q)) 4 (.int .u8 (md : Nat))) 5 (.int .i64 1)) 6 (.int .i64 0))
            have HR := Lib.hid (blk_set (blk_set (blk_set HRW.out 4 (.int .u8 (md : Nat))) 5 (.int .i64 1)) 6 (.int .i64 0))
            go_enter Tryz.func48, Tryz.ntmps48
            go_wp2
            go_ret
            exact ⟨rfl, HG.out, _, HR.out, HV.out.grown (mod_cell0 HRW.out) HG.out⟩
      · rw [if_pos h3]
        have k3 : (0 : Int) < (m.mode : Nat) := by omega
        go_enter Tryz.func48, Tryz.ntmps48
        go_wp2
        go_ret
        exact ⟨rfl, mr_same HM.out⟩
end
end Go.Proofs.YtjbepnkchoaipaaGreat
