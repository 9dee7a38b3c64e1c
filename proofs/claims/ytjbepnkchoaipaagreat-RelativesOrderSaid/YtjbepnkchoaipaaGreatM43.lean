import Derived.Test.YtjbepnkchoaipaaGreatBase
import Derived.Below
import Derived.Laws.OwnMore
import Derived.Maps.AppendAt
import Derived.OwnWalk
import Derived.Test.YtjbepnkchoaipaaGreatM41
import Derived.Test.YtjbepnkchoaipaaGreatM36
set_option linter.unusedVariables false
set_option linter.unusedSimpArgs false
/- append onto a row of one's own whose block is known whole, as far as a predicate goes (its spare, too). -/
namespace Go.Proofs.YtjbepnkchoaipaaGreat
open Go.RowKit
set_option maxRecDepth 100000
/-- Every cell of the block on which a slice lies. -/
def RowP (pr : Value → Prop) (w : World) (v : Value) : Prop := ∀ g, v.ownBlock = some g → ∃ (cur : Array Value) (e : TypeId) (fr : Nat × Nat), w.heap[g]? = some (.cells cur e fr) ∧ ∀ u ∈ cur.toList, pr u
theorem RowP.same {pr : Value → Prop} {w w' : World} {v : Value} (h : RowP pr w v) (hb : ∀ g, v.ownBlock = some g → w'.heap[g]? = w.heap[g]?) : RowP pr w' v := fun g hg => by
  obtain ⟨cur, e, fr, h1, h2⟩ := h g hg
  exact ⟨cur, e, fr, (hb g hg).trans h1, h2⟩
theorem RowP.cell {pr : Value → Prop} {w : World} {v : Value} (h : RowP pr w v) {g o : Nat} (hg : v.ownBlock = some g) {u : Value} (hc : w.cell? ⟨g, o, none⟩ = some u) : pr u := by
  obtain ⟨cur, e, fr, h1, h2⟩ := h g hg
  simp [World.cell?, h1] at hc
  exact h2 u (Array.mem_toList_iff.2 (Array.mem_of_getElem? hc))
theorem rowP_lit (pr : Value → Prop) (w : World) (x : Value) (n c : Nat) (e : TypeId) (hx : pr x) : RowP pr (w.alloc (.cells #[x] e)) (.slice (some ⟨w.heap.size, 0, none⟩) n c) := fun g hg => by
  have : w.heap.size = g := by simpa [Value.ownBlock] using hg
  subst this
  exact ⟨_, e, _, heap_alloc_new w _, fun u hu => by simp at hu; subst hu; exact hx⟩
section
variable {P : Program} (w : World)
theorem run_append_P (pr : Value → Prop) (base : Nat) (t ty e : TypeId) (i : TypeInfo) (z : Value) (bytes : Nat) (ht : P.underlying t = some (.slice e)) (hi : P.info? e = some i) (hz : i.zero = some z)
    (hsize : i.size = 1) (hby : i.bytes = bytes) (hzs : z.cells = #[z]) (hzp : pr z)
    (v : Value) (n : Nat) (xs : List Value) (hown : w.ownsRow base e 1 v n xs) (hp : RowP pr w v) (hxs : ∀ u ∈ xs, pr u)
    (a : Addr) (c : Nat) (new : Value) (hnew : w.cell? a = some new) (h1 : new.oneCell' = true) (hnp : pr new)
    (h63 : n + 1 ≤ maxLen) (hbytes : (n + 1) * bytes ≤ 140737488355328) (hbase : base ≤ w.heap.size) :
    ∃ v' w', (Builtin.append_ #[t, t] ty #[v, .slice (some a) 1 c]).run P w = .ok v' w' ∧ w'.ownsRow base e 1 v' (n + 1) (xs ++ [new]) ∧ w.grownBy w' v.ownBlock ∧
      (v'.ownBlock = v.ownBlock ∨ v'.ownBlock = some w.heap.size) ∧ RowP pr w' v' := by
  subst hby
  have hnews : ∀ j u, [new][j]? = some u → w.cell? (a.add j) = some u := by
    intro j u hu
    match j, hu with
    | 0, hu => simp at hu; subst hu; simpa [Addr.add] using hnew
    | j + 1, hu => simp at hu
  have h1' : ∀ u ∈ [new], u.oneCell' = true := fun u hu => by simp at hu; subst hu; exact h1
  have hl : [new].length = 1 * i.size := by rw [hsize]; rfl
  have hsmall : n + 1 ≤ 9223372036854775807 := by simp only [maxLen] at h63; omega
  have hlen : (xs ++ [new]).length = (n + 1) * 1 := by rw [List.length_append, hown.1]; simp
  have zc : ∀ k, ∀ u ∈ (Builtin.zeroCells z.cells k).toList, pr u := by
    intro k u hu
    simp [Builtin.zeroCells, hzs, Nat.mod_one] at hu
    rw [← hu.2]; exact hzp
  have grown : ∀ (old : Nat), old < n + 1 → ∀ (row : Option Nat),
      (w.drew.alloc (.cells (xs.toArray ++ [new].toArray ++ Builtin.zeroCells z.cells (grownCap w (n + 1) old e - (n + 1))) e)).ownsRow base e 1
        (.slice (some ⟨w.heap.size, 0, none⟩) (n + 1) (grownCap w (n + 1) old e)) (n + 1) (xs ++ [new]) ∧
      w.grownBy (w.drew.alloc (.cells (xs.toArray ++ [new].toArray ++ Builtin.zeroCells z.cells (grownCap w (n + 1) old e - (n + 1))) e)) row ∧
      RowP pr (w.drew.alloc (.cells (xs.toArray ++ [new].toArray ++ Builtin.zeroCells z.cells (grownCap w (n + 1) old e - (n + 1))) e)) (.slice (some ⟨w.heap.size, 0, none⟩) (n + 1) (grownCap w (n + 1) old e)) := by
    intro old ho row
    have hge := grownCap_ge w (n + 1) old e
    have hcm : grownCap w (n + 1) old e ≤ maxLen := grownCap_le_maxLen w (n + 1) old e h63
    refine ⟨⟨hlen, .inr ⟨w.heap.size, _, _, rfl, hbase, heap_alloc_new w.drew _, hge, hcm, ?_, ?_⟩⟩, ⟨rfl, rfl, rfl, by simp, fun k hk _ => Below.heap_alloc w.drew _ k hk⟩, fun g hg => ?_⟩
    · simp only [Array.size_append, List.size_toArray, size_zeroCells, hzs, hown.1]
      simp
      omega
    · simp only [Array.toList_append, List.append_assoc]
      rw [← List.append_assoc, ← hlen]
      exact List.take_left
    · have : w.heap.size = g := by simpa [Value.ownBlock] using hg
      subst this
      refine ⟨_, e, _, heap_alloc_new w.drew _, fun u hu => ?_⟩
      simp only [Array.toList_append, List.mem_append] at hu
      rcases hu with (hu | hu) | hu
      · exact hxs u hu
      · have : u = new := by simpa using hu
        rw [this]; exact hnp
      · exact zc _ u hu
  rcases hown.2 with ⟨rfl, rfl⟩ | ⟨g, cap, cur, rfl, hbg, hg, hnc, hcm, hcs, htake⟩
  · have hx : xs = [] := List.eq_nil_of_length_eq_zero (by simpa using hown.1)
    subst hx
    have hr := run_append_nil (P := P) w t ty e i z ht hi hz a 1 c [new] hl hnews (by omega) (by omega) (by have hb := hbytes; simp only [Nat.zero_add] at hb; omega)
    have hgr := grown 0 (by omega) (Value.ownBlock (.slice none 0 0))
    simp only [Nat.zero_add, List.nil_append, Array.empty_append] at hgr ⊢
    exact ⟨_, _, hr, hgr.1, hgr.2.1, Or.inr rfl, hgr.2.2⟩
  · by_cases hroom : n + 1 ≤ cap
    · have hfit : n * i.size + [new].length ≤ cur.size := by rw [hl, hsize, hcs, ← Nat.add_mul]; exact Nat.mul_le_mul_right _ hroom
      have hr := run_append_room (P := P) w t ty e i ht hi g n cap cur hg a 1 c [new] hl hnews h1' hroom hfit
      rw [hsize] at hr
      refine ⟨_, _, hr, ⟨hlen, .inr ⟨g, cap, _, rfl, hbg, setRow_heap w g cur _ e _ hg, hroom, hcm, ?_, ?_⟩⟩, ⟨rfl, rfl, rfl, by simp, fun k _ hk => setRow_other w g k _ (fun e => hk (by simp [Value.ownBlock, e]))⟩, Or.inl rfl, fun g' hg' => ?_⟩
      · rw [hsize] at hfit
        simp only [List.size_toArray, List.length_append, List.length_take, List.length_drop, Array.length_toList]
        omega
      · rw [htake, ← hlen]
        exact List.take_left
      · have : g = g' := by simpa [Value.ownBlock] using hg'
        subst this
        refine ⟨_, e, _, setRow_heap w g cur _ e _ hg, fun u hu => ?_⟩
        obtain ⟨cur', e', fr', q1, q2⟩ := hp g rfl
        rw [hg] at q1
        injection q1 with q1
        injection q1 with q1
        subst q1
        have hu : u ∈ (cur.toList.take (n * 1) ++ [new]) ++ cur.toList.drop (n * 1 + [new].length) := by simpa using hu
        rcases List.mem_append.1 hu with hu | hu
        · rcases List.mem_append.1 hu with hu | hu
          · exact q2 u (List.mem_of_mem_take hu)
          · have : u = new := by simpa using hu
            rw [this]; exact hnp
        · exact q2 u (List.mem_of_mem_drop hu)
    · have holds : ∀ j u, xs[j]? = some u → w.cell? ((⟨g, 0, none⟩ : Addr).add j) = some u := hown.cells (g := g) rfl
      have hr := run_append_grow (P := P) w t ty e i z ht hi hz ⟨g, 0, none⟩ n cap xs (by rw [hsize]; exact hown.1) holds a 1 c [new] hl hnews (by omega) (by omega) (growslice_fits (by omega) hbytes)
      have hgr := grown cap (by omega) (Value.ownBlock (.slice (some ⟨g, 0, none⟩) n cap))
      exact ⟨_, _, hr, hgr.1, hgr.2.1, Or.inr rfl, hgr.2.2⟩
theorem wpList_append_P {ops : Array Oper} {rest : List Oper} {o : Oper} {a : Act} {Q : Exit → Act → World → Prop} (hgd : o.guard = none) (s x : Operand) (t : TypeId)
    (ho : o.op = .call { callee := .builtin .append, args := #[s, x], argTypes := #[t, t] })
    (pr : Value → Prop) (base : Nat) (e : TypeId) (i : TypeInfo) (z : Value) (bytes : Nat) (ht : P.underlying t = some (.slice e)) (hi : P.info? e = some i) (hz : i.zero = some z)
    (hsize : i.size = 1) (hby : i.bytes = bytes) (hzs : z.cells = #[z]) (hzp : pr z)
    (v : Value) (n : Nat) (xs : List Value) (hs : a.eval s = v) (hown : w.ownsRow base e 1 v n xs) (hp : RowP pr w v) (hxs : ∀ u ∈ xs, pr u)
    (ad : Addr) (c : Nat) (new : Value) (hx : a.eval x = .slice (some ad) 1 c) (hnew : w.cell? ad = some new) (h1 : new.oneCell' = true) (hnp : pr new)
    (h63 : n + 1 ≤ maxLen) (hbytes : (n + 1) * bytes ≤ 140737488355328) (hbase : base ≤ w.heap.size)
    (h : ∀ v' w', w'.ownsRow base e 1 v' (n + 1) (xs ++ [new]) → w.grownBy w' v.ownBlock → (v'.ownBlock = v.ownBlock ∨ v'.ownBlock = some w.heap.size) → RowP pr w' v' → wpList P ops Q rest (a.put o.dst v') w') :
    wpList P ops Q (o :: rest) a w := by
  refine wpList_plain hgd fun K hK => ?_
  obtain ⟨v', w', hr, h2, h3, h4, h5⟩ := run_append_P (P := P) w pr base t o.type e i z bytes ht hi hz hsize hby hzs hzp v n xs hown hp hxs ad c new hnew h1 hnp h63 hbytes hbase
  unfold Oper.wp execOp
  simp only [ho, resolve, invoke, builtin, Sem.run_bind, Sem.run_pure, Result.andThen_ok, List.map_toArray, List.map_cons, List.map_nil, hs, hx, hr]
  exact hK _ _ (h v' w' h2 h3 h4 h5)
end
end Go.Proofs.YtjbepnkchoaipaaGreat
/- Law 31: rows of the law's own beside a file. -/
namespace Go.Proofs.YtjbepnkchoaipaaGreat
open Go.RowKit Go.Lib Go.Maps Go.WideMaps Go.Sort
set_option maxRecDepth 100000
section
variable {w0 : World} {p pf : Nat} {nm : J.B} {u : Nat} {fs fs1 : List (Nat × Obj)} {m m' : R.M} {L : List (List (J.B × J.B))} {w w' W W' : World} {s : J.St}
/-- A block turns, and new ones are laid. -/
theorem At.turnAdd {b : Nat} {o o' : Obj} (h : At w0 p ((b, o) :: fs) s w) (hf : ∀ x ∈ fs, x.1 ≠ b) (ht : J.Two s) (hn : NoBy w b) (hg : w.grownBy w' (some b)) (hr : w'.heap[b]? = some o') {gs : List (Nat × Obj)} (hgs : ∀ x ∈ gs, w.heap.size ≤ x.1 ∧ w'.heap[x.1]? = some x.2) : At w0 p ((b, o') :: (gs ++ fs)) s w' := by
  obtain ⟨M, h1, h2, h3, h4⟩ := h
  obtain ⟨g1, g2, g3⟩ := h4 _ List.mem_cons_self
  refine ⟨M, h1.oth ht (Oth.of_grown hg (fun k e => by injection e with e; subst e; exact ⟨g2, hn⟩)), fun k hk => ⟨(h2 k hk).1, Nat.lt_of_lt_of_le (h2 k hk).2 hg.size⟩, h3.grown hg h3.size (fun k e => by injection e with e; subst e; exact g1), fun x hx => ?_⟩
  rcases List.mem_cons.1 hx with rfl | hx
  · exact ⟨g1, g2, hr⟩
  · rcases List.mem_append.1 hx with hx | hx
    · exact ⟨Nat.le_trans h3.size (hgs x hx).1, fun hm => by have := (h2 _ hm).2; have := (hgs x hx).1; omega, (hgs x hx).2⟩
    · obtain ⟨k1, k2, k3⟩ := h4 x (List.mem_cons_of_mem _ hx)
      exact ⟨k1, k2, (hg.block x.1 (Array.getElem?_eq_some_iff.1 k3).1 (fun e => hf x hx (by injection e))).trans k3⟩
/-- A row of one's own, whose block is named. -/
structure OwnIn (fs : List (Nat × Obj)) (base : Nat) (e : TypeId) (v : Value) (n : Nat) (xs : List Value) (pr : Value → Prop) : Prop where
  row : ∀ W : World, (∀ x ∈ fs, W.heap[x.1]? = some x.2) → W.ownsRow base e 1 v n xs ∧ RowP pr W v
  blk : (v.ownBlock = none ∧ fs = []) ∨ ∃ g o, v.ownBlock = some g ∧ fs = [(g, o)]
theorem ownIn_nil (base : Nat) (e : TypeId) (pr : Value → Prop) : OwnIn [] base e (.slice none 0 0) 0 [] pr :=
  ⟨fun W _ => ⟨World.ownsRow_nil W base e 1, fun g hg => by cases hg⟩, .inl ⟨rfl, rfl⟩⟩
theorem ownIn_of {base : Nat} {e : TypeId} {v : Value} {n : Nat} {xs : List Value} {pr : Value → Prop} (h : W.ownsRow base e 1 v n xs) (hp : RowP pr W v) : ∃ fs, OwnIn fs base e v n xs pr ∧ ∀ x ∈ fs, W.heap[x.1]? = some x.2 ∧ v.ownBlock = some x.1 := by
  cases hv : v.ownBlock with
  | none =>
    refine ⟨[], ⟨fun W' _ => ⟨own_same h (fun k e => by rw [hv] at e; cases e), fun g hg => by rw [hv] at hg; cases hg⟩, .inl ⟨hv, rfl⟩⟩, fun x hx => by cases hx⟩
  | some g =>
    have hl := (h.lt g hv).2
    have ho : W.heap[g]? = some W.heap[g] := Array.getElem?_eq_getElem hl
    refine ⟨[(g, W.heap[g])], ⟨fun W' hW => ?_, .inr ⟨g, _, hv, rfl⟩⟩, fun x hx => ?_⟩
    · have hg := hW _ List.mem_cons_self
      have hs : ∀ k, v.ownBlock = some k → W'.heap[k]? = W.heap[k]? := fun k e => by
        rw [hv] at e; injection e with e; subst e
        exact hg.trans ho.symm
      exact ⟨own_same h hs, hp.same hs⟩
    · simp only [List.mem_singleton] at hx; subst hx
      exact ⟨ho, rfl⟩
theorem K.get (h : K w0 p pf nm u fs m L W) {x : Nat × Obj} (hx : x ∈ fs) : W.heap[x.1]? = some x.2 := by
  obtain ⟨s, h1, _⟩ := h
  exact h1.get (List.mem_cons_of_mem _ hx)
theorem rowP_noBy {pr : Value → Prop} {base : Nat} {e : TypeId} {v : Value} {n g : Nat} {xs : List Value} (h : W.ownsRow base e 1 v n xs) (hp : RowP pr W v) (hv : v.ownBlock = some g) (hpr : ∀ u : UInt8, ¬ pr (u8 u)) (he : e ≠ 5) : NoBy W g := by
  refine ⟨fun o a b hh => hpr a (hp.cell hv hh.1), fun ⟨_, cur, fr, hh⟩ => ?_⟩
  rcases h.2 with ⟨rfl, _⟩ | ⟨g', cap, cur', rfl, _, hg, _⟩
  · cases hv
  · have : g' = g := by simpa [Value.ownBlock] using hv
    subst this
    rw [hg] at hh
    injection hh with hh
    injection hh with _ hh
    exact he hh
/-- The row grows, or is stored into. -/
theorem K.grow {base : Nat} {e : TypeId} {v v' : Value} {n n' : Nat} {xs xs' : List Value} {pr : Value → Prop} (h : K w0 p pf nm u (fs1 ++ fs) m L W) (ho : OwnIn fs1 base e v n xs pr) (hpr : ∀ u : UInt8, ¬ pr (u8 u)) (he : e ≠ 5) (hd : ∀ x ∈ fs1, ∀ y ∈ fs, y.1 ≠ x.1)
    (hg : W.grownBy W' v.ownBlock) (hloc : v'.ownBlock = v.ownBlock ∨ v'.ownBlock = some W.heap.size) (hrow : W'.ownsRow base e 1 v' n' xs') (hp : RowP pr W' v') :
    ∃ fs1', K w0 p pf nm u (fs1' ++ fs) m L W' ∧ OwnIn fs1' base e v' n' xs' pr ∧ ∀ x ∈ fs1', ∀ y ∈ fs, y.1 ≠ x.1 := by
  obtain ⟨fs1', ho', hx'⟩ := ownIn_of hrow hp
  have hfl : ∀ y ∈ fs, y.1 < W.heap.size := fun y hy => (Array.getElem?_eq_some_iff.1 (h.get (List.mem_append_right _ hy))).1
  obtain ⟨s, h1, h2, h3, h4⟩ := h
  rcases ho.blk with ⟨hv, rfl⟩ | ⟨g, o, hv, rfl⟩
  · rw [hv] at hg
    have hb : Below W.heap.size W W' := ⟨hg.os, hg.tape, hg.output, hg.size, fun k hk => hg.block k hk (fun e => by cases e)⟩
    have hge : ∀ x ∈ fs1', W.heap.size ≤ x.1 := fun x hx => by
      rcases hloc with e | e
      · rw [hv, (hx' x hx).2] at e; cases e
      · rw [(hx' x hx).2] at e; injection e with e; omega
    have hA := (h1.add hb (gs := fs1') (fun x hx => ⟨hge x hx, (hx' x hx).1⟩)).less (gs := (pf, fileO p nm m.rel m.size m.mode m.next m.last) :: (fs1' ++ fs)) (fun x hx => by
      simp only [List.mem_cons, List.mem_append] at hx ⊢
      rcases hx with h | h | h
      · exact .inr (.inl h)
      · exact .inl h
      · exact .inr (.inr (.inr h)))
    have hpl := (Array.getElem?_eq_some_iff.1 (h1.get List.mem_cons_self)).1
    have hpl : pf < W.heap.size := hpl
    refine ⟨fs1', ⟨s, hA, h2, fun x hx => ?_, h4⟩, ho', fun x hx y hy => by have := hge x hx; have := hfl y hy; omega⟩
    rcases List.mem_append.1 hx with hx | hx
    · have := hge x hx; omega
    · exact h3 x (List.mem_append_right _ hx)
  · rw [hv] at hg
    obtain ⟨r1, r2⟩ := ho.row W (fun x hx => h1.get (List.mem_cons_of_mem _ (List.mem_append_left _ hx)))
    have hgl := (r1.lt g hv).2
    have hno := rowP_noBy r1 r2 hv hpr he
    have hA : At w0 p ((g, o) :: (pf, fileO p nm m.rel m.size m.mode m.next m.last) :: fs) s W := h1.less (fun x hx => by
      simp only [List.mem_cons, List.mem_append, List.not_mem_nil, or_false] at hx ⊢
      rcases hx with h | h | h
      · exact .inr (.inl h)
      · exact .inl h
      · exact .inr (.inr h))
    have hgp : g ≠ pf := h3 (g, o) (List.mem_append_left _ List.mem_cons_self)
    have hgl' : g < W'.heap.size := Nat.lt_of_lt_of_le hgl hg.size
    have hnew : ∀ x ∈ fs1', x.1 = g ∨ W.heap.size ≤ x.1 := fun x hx => by
      rcases hloc with e | e
      · rw [hv, (hx' x hx).2] at e; injection e with e; exact .inl e
      · rw [(hx' x hx).2] at e; injection e with e; exact .inr (by omega)
    have hT := hA.turnAdd (o' := W'.heap[g]) (gs := fs1'.filter (fun x => decide (W.heap.size ≤ x.1))) (fun x hx => by
      rcases List.mem_cons.1 hx with rfl | hx
      · exact hgp.symm
      · exact hd _ List.mem_cons_self x hx) h2.sto.two hno hg (Array.getElem?_eq_getElem hgl') (fun x hx => by
        obtain ⟨q1, q2⟩ := List.mem_filter.1 hx
        exact ⟨by simpa using q2, (hx' x q1).1⟩)
    refine ⟨fs1', ⟨s, hT.less (fun x hx => ?_), h2, fun x hx => ?_, h4⟩, ho', fun x hx y hy => ?_⟩
    · simp only [List.mem_cons, List.mem_append] at hx ⊢
      rcases hx with h | h | h
      · exact .inr (.inr (.inl h))
      · rcases hnew x h with e | e
        · left
          have q := (hx' x h).1
          rw [e, Array.getElem?_eq_getElem hgl'] at q
          injection q with q
          exact Prod.ext e q.symm
        · exact .inr (.inl (List.mem_filter.2 ⟨h, by simpa using e⟩))
      · exact .inr (.inr (.inr h))
    · rcases List.mem_append.1 hx with hx | hx
      · rcases hnew x hx with e | e
        · rw [e]; exact hgp
        · have hpl := (Array.getElem?_eq_some_iff.1 (h1.get List.mem_cons_self)).1
          have hpl : pf < W.heap.size := hpl
          omega
      · exact h3 x (List.mem_append_right _ hx)
    · rcases hnew x hx with e | e
      · rw [e]; exact hd _ List.mem_cons_self y hy
      · have := hfl y hy; omega
theorem KX.grow {base : Nat} {e : TypeId} {v v' : Value} {n n' : Nat} {xs xs' : List Value} {pr : Value → Prop} (h : KX w0 p pf nm u (fs1 ++ fs) m W) (ho : OwnIn fs1 base e v n xs pr) (hpr : ∀ u : UInt8, ¬ pr (u8 u)) (he : e ≠ 5) (hd : ∀ x ∈ fs1, ∀ y ∈ fs, y.1 ≠ x.1)
    (hg : W.grownBy W' v.ownBlock) (hloc : v'.ownBlock = v.ownBlock ∨ v'.ownBlock = some W.heap.size) (hrow : W'.ownsRow base e 1 v' n' xs') (hp : RowP pr W' v') :
    ∃ fs1', KX w0 p pf nm u (fs1' ++ fs) m W' ∧ OwnIn fs1' base e v' n' xs' pr ∧ ∀ x ∈ fs1', ∀ y ∈ fs, y.1 ≠ x.1 := by
  obtain ⟨L, h⟩ := h
  obtain ⟨f, h1, h2⟩ := h.grow ho hpr he hd hg hloc hrow hp
  exact ⟨f, ⟨L, h1⟩, h2⟩
theorem KX.own {base : Nat} {e : TypeId} {v : Value} {n : Nat} {xs : List Value} {pr : Value → Prop} (h : KX w0 p pf nm u fs m W) (ho : OwnIn fs1 base e v n xs pr) (hs : ∀ x ∈ fs1, x ∈ fs) : W.ownsRow base e 1 v n xs ∧ RowP pr W v := by
  obtain ⟨L, h⟩ := h
  exact ho.row W (fun x hx => h.get (hs x hx))
/-- A store into a row. -/
theorem rowP_set {pr : Value → Prop} {v : Value} {g j : Nat} {x : Value} (h : RowP pr W v) (hv : v.ownBlock = some g) (hx : pr x) : RowP pr (W.setCell ⟨g, j, none⟩ x) v := by
  intro g' hg'
  rw [hv] at hg'; injection hg' with hg'; subst hg'
  obtain ⟨cur, e, fr, h1, h2⟩ := h g hv
  refine ⟨cur.setIfInBounds j x, e, fr, by simp [World.setCell, Array.getElem?_modify, h1], fun y hy => ?_⟩
  rw [Array.toList_setIfInBounds] at hy
  rcases List.mem_or_eq_of_mem_set hy with h | h
  · exact h2 y h
  · subst h; exact hx
/-- A row of bytes that is new is laid beside the file. -/
theorem src_own {base n : Nat} {v : Value} {b : J.B} (h : W.ownsRow base 5 1 v n (u8s b)) (hb : b ≠ []) (hk : KX w0 p pf nm u fs m w) (hB : Below w.heap.size w W) (hbase : w.heap.size ≤ base) : ∃ x : Nat × Obj, KX w0 p pf nm u (x :: fs) m W ∧ Src w0 p (x :: fs) v b ∧ w.heap.size ≤ x.1 := by
  have hn : 0 < n := by
    have h1 := h.1
    rw [u8s_len] at h1
    have : b.length ≠ 0 := fun e => hb (List.eq_nil_of_length_eq_zero e)
    omega
  rcases h.2 with ⟨_, h0⟩ | ⟨g, cap, cur, rfl, hbg, hg, hnc, hcm, hcs, htake⟩
  · omega
  · obtain ⟨L, s, h1, h2, h3, h4⟩ := hk
    have hpl := (Array.getElem?_eq_some_iff.1 (h1.get List.mem_cons_self)).1
    have hpl : pf < w.heap.size := hpl
    have hA := (h1.add hB (gs := [(g, .cells cur 5 (0, 0))]) (fun x hx => by
      simp only [List.mem_singleton] at hx; subst hx
      exact ⟨Nat.le_trans hbase hbg, hg⟩)).less (gs := (pf, fileO p nm m.rel m.size m.mode m.next m.last) :: (g, .cells cur 5 (0, 0)) :: fs) (fun x hx => by
        simp only [List.mem_cons, List.mem_append, List.not_mem_nil, or_false] at hx ⊢
        rcases hx with h | h | h
        · exact .inr (.inl h)
        · exact .inl h
        · exact .inr (.inr h))
    have hgw : w.heap.size ≤ g := Nat.le_trans hbase hbg
    refine ⟨(g, .cells cur 5 (0, 0)), ⟨L, s, hA, h2, fun x hx => ?_, h4⟩, fun gs t w1 hgs ha => ?_, hgw⟩
    · rcases List.mem_cons.1 hx with rfl | hx
      · show g ≠ pf; omega
      · exact h3 x hx
    · have hr := ha.get (hgs _ List.mem_cons_self)
      have hr : w1.heap[g]? = some (.cells cur 5 (0, 0)) := hr
      refine own_slN (base := base) ⟨h.1, .inr ⟨g, cap, cur, rfl, hbg, hr, hnc, hcm, hcs, htake⟩⟩
end
end Go.Proofs.YtjbepnkchoaipaaGreat
/- Law 31, RelativesOrder, plain: records with the numbers 1, 2, .. -/
namespace Go.Proofs.YtjbepnkchoaipaaGreat
namespace R
def num : Nat → List B → Rows
  | _, [] => []
  | k, b :: t => (k, b) :: num (k + 1) t
theorem num_app (k : Nat) (a b : List B) : num k (a ++ b) = num k a ++ num (k + a.length) b := by
  induction a generalizing k with
  | nil => rfl
  | cons x t ih =>
    show (k, x) :: num (k + 1) (t ++ b) = (k, x) :: (num (k + 1) t ++ num (k + (t.length + 1)) b)
    rw [ih, show k + 1 + t.length = k + (t.length + 1) by omega]
theorem num_mem {k : Nat} {ws : List B} {r : Nat × B} (h : r ∈ num k ws) : k ≤ r.1 ∧ r.1 < k + ws.length ∧ r.2 ∈ ws := by
  induction ws generalizing k with
  | nil => cases h
  | cons x t ih =>
    rcases List.mem_cons.1 h with rfl | h
    · exact ⟨Nat.le_refl _, by simp, List.mem_cons_self⟩
    · obtain ⟨h1, h2, h3⟩ := ih h
      exact ⟨by omega, by simp; omega, List.mem_cons_of_mem _ h3⟩
theorem num_asc (k : Nat) (ws : List B) : (num k ws).Pairwise fun a b => a.1 < b.1 := by
  induction ws generalizing k with
  | nil => exact List.Pairwise.nil
  | cons x t ih =>
    refine List.pairwise_cons.2 ⟨fun y hy => ?_, ih (k + 1)⟩
    have := (num_mem hy).1
    show k < y.1
    omega
theorem num_ok {ws : List B} (h : ws.length ≤ 65536) : RowsOk (num 1 ws) := ⟨num_asc 1 ws, fun r hr => by obtain ⟨h1, h2, _⟩ := num_mem hr; omega⟩
theorem num_len (k : Nat) (ws : List B) : (num k ws).length = ws.length := by
  induction ws generalizing k with
  | nil => rfl
  | cons x t ih => show (num (k + 1) t).length + 1 = t.length + 1; rw [ih]
theorem num_last (ws : List B) : lastN (num 1 ws) = ws.length := by
  unfold lastN
  rcases List.eq_nil_or_concat ws with rfl | ⟨t, x, rfl⟩
  · rfl
  · rw [List.concat_eq_append, num_app]
    show (match (num 1 t ++ [(1 + t.length, x)]).getLast? with | some r => r.1 | none => 0) = _
    rw [List.getLast?_append]
    simp [Nat.add_comm]
theorem num_put_end {ws : List B} (h : ws.length ≤ 65536) (b : B) : put (num 1 ws) (ws.length + 1) b = num 1 (ws ++ [b]) := by
  rw [put_eq (num_ok h), List.filter_eq_self.2 (fun r hr => by have := (num_mem hr).2.1; simp; omega), List.filter_eq_nil_iff.2 (fun r hr => by have := (num_mem hr).2.1; simp; omega), num_app, Nat.add_comm 1]
  rfl
theorem num_split {ws : List B} {i : Nat} (h : i < ws.length) : num 1 ws = num 1 (ws.take i) ++ (i + 1, ws[i]) :: num (i + 2) (ws.drop (i + 1)) := by
  have e : ws = ws.take i ++ ws[i] :: ws.drop (i + 1) := by rw [← List.drop_eq_getElem_cons h, List.take_append_drop]
  conv => lhs; rw [e]
  rw [num_app, List.length_take, Nat.min_eq_left (Nat.le_of_lt h), Nat.add_comm 1 i]
  rfl
theorem num_put {ws : List B} (hl : ws.length ≤ 65536) {i : Nat} (h : i < ws.length) (b : B) : put (num 1 ws) (i + 1) b = num 1 (ws.set i b) := by
  have hs : i < (ws.set i b).length := by rw [List.length_set]; exact h
  rw [put_eq (num_ok hl), num_split hs, num_split h]
  have h1 : ∀ r ∈ num 1 (ws.take i), r.1 < i + 1 := fun r hr => by
    have := (num_mem hr).2.1
    rw [List.length_take] at this; omega
  have h2 : ∀ r ∈ num (i + 2) (ws.drop (i + 1)), i + 1 < r.1 := fun r hr => by have := (num_mem hr).1; omega
  rw [List.filter_append, List.filter_append, List.filter_cons_of_neg (by simp), List.filter_cons_of_neg (by simp)]
  rw [List.filter_eq_self.2 (fun r hr => by simpa using h1 r hr), List.filter_eq_nil_iff.2 (fun r hr => by have := h2 r hr; simp; omega), List.filter_eq_nil_iff.2 (fun r hr => by have := h1 r hr; simp; omega), List.filter_eq_self.2 (fun r hr => by simpa using h2 r hr)]
  rw [List.append_nil, List.nil_append, List.getElem_set_self, List.take_set_of_le (Nat.le_refl i), List.drop_set_of_lt (Nat.lt_succ_self i)]
theorem num_find {ws : List B} {i : Nat} (h : i < ws.length) : (num 1 ws).find? (fun r => decide (i + 1 ≤ r.1)) = some (i + 1, ws[i]) := by
  rw [num_split h, List.find?_append, List.find?_eq_none.2 (fun r hr => by
    have := (num_mem hr).2.1
    rw [List.length_take] at this
    simp; omega)]
  simp
theorem num_find_no (ws : List B) : (num 1 ws).find? (fun r => decide (ws.length + 1 ≤ r.1)) = none :=
  List.find?_eq_none.2 (fun r hr => by have := (num_mem hr).2.1; simp; omega)
theorem num_look {ws : List B} (hl : ws.length ≤ 65536) {i : Nat} (h : i < ws.length) : look (num 1 ws) (i + 1) = some ws[i] := by
  have : (i + 1, ws[i]) ∈ num 1 ws := by rw [num_split h]; exact List.mem_append_right _ List.mem_cons_self
  exact look_of_mem (num_ok hl) this
/-- The file of the law. -/
def ord (ws : List B) (md nx la : Nat) : M := ⟨false, 6, true, num 1 ws, md, nx, la⟩
theorem ord_append {ws : List B} (hl : ws.length < 65536) (nx la : Nat) {b : B} (hb : 0 < b.length ∧ b.length ≤ 6) : (ord ws 4 nx la).append b = (ord (ws ++ [b]) 4 nx 0, ws.length + 1, good) := by
  unfold M.append
  rw [if_neg (show ¬ (chk [52, 56] false 2 4 (ord ws 4 nx la).rel (ord ws 4 nx la).mode ≠ good) from fun h => h rfl), if_neg (show ¬ ¬ (0 < b.length ∧ b.length ≤ (ord ws 4 nx la).size) from fun h => h hb)]
  have e : lastN (ord ws 4 nx la).rows = ws.length := num_last ws
  rw [e, if_neg (by omega)]
  have e2 : put (ord ws 4 nx la).rows (ws.length + 1) b = num 1 (ws ++ [b]) := num_put_end (Nat.le_of_lt hl) b
  rw [e2]; rfl
theorem ord_next {ws : List B} {i : Nat} (h : i < ws.length) (md la : Nat) (hm : md = 1 ∨ md = 3) : (ord ws md (i + 1) la).nextR = (ord ws md (i + 2) (i + 1), some (i + 1, ws[i]), good) := by
  unfold M.nextR
  have hc : chk [52, 55] false 1 3 false md = good := by rcases hm with rfl | rfl <;> rfl
  rw [if_neg (show ¬ (chk [52, 55] false 1 3 (ord ws md (i + 1) la).rel (ord ws md (i + 1) la).mode ≠ good) from fun h => h hc), if_neg (show ¬ (ord ws md (i + 1) la).next = 0 from Nat.succ_ne_zero i)]
  have e : (ord ws md (i + 1) la).rows.find? (fun r => decide ((ord ws md (i + 1) la).next ≤ r.1)) = some (i + 1, ws[i]) := num_find h
  rw [e]; rfl
theorem ord_end (ws : List B) (md la : Nat) (hm : md = 1 ∨ md = 3) : (ord ws md (ws.length + 1) la).nextR = (ord ws md 0 0, none, [49, 48]) := by
  unfold M.nextR
  have hc : chk [52, 55] false 1 3 false md = good := by rcases hm with rfl | rfl <;> rfl
  rw [if_neg (show ¬ (chk [52, 55] false 1 3 (ord ws md (ws.length + 1) la).rel (ord ws md (ws.length + 1) la).mode ≠ good) from fun h => h hc), if_neg (show ¬ (ord ws md (ws.length + 1) la).next = 0 from Nat.succ_ne_zero _)]
  have e : (ord ws md (ws.length + 1) la).rows.find? (fun r => decide ((ord ws md (ws.length + 1) la).next ≤ r.1)) = none := num_find_no ws
  rw [e]; rfl
theorem ord_rewrite {ws : List B} (hl : ws.length ≤ 65536) {i : Nat} (h : i < ws.length) (nx : Nat) {b : B} (hb : 0 < b.length ∧ b.length ≤ 6) (he : ws[i].length = b.length) : (ord ws 3 nx (i + 1)).rewrite 0 b = (ord (ws.set i b) 3 nx 0, good) := by
  have hn : (ord ws 3 nx (i + 1)).num 0 = (i + 1 : Nat) := rfl
  have hk : lookI (ord ws 3 nx (i + 1)).rows ((i + 1 : Nat) : Int) = some ws[i] := by
    unfold lookI
    rw [if_pos (by omega), Int.toNat_natCast]
    exact num_look hl h
  have hp : put (ord ws 3 nx (i + 1)).rows (i + 1) b = num 1 (ws.set i b) := num_put hl h b
  unfold M.rewrite
  rw [if_neg (show ¬ (chk [52, 57] (decide ((0 : Int) ≠ 0)) 3 3 (ord ws 3 nx (i + 1)).rel (ord ws 3 nx (i + 1)).mode ≠ good) from fun h => h rfl), hn, if_neg (by omega), hk, if_neg (show ¬ ¬ ((0 < b.length ∧ b.length ≤ (ord ws 3 nx (i + 1)).size) ∧ ((ord ws 3 nx (i + 1)).rel = true ∨ ((some ws[i]).getD []).length = b.length)) from fun h => h ⟨hb, .inr he⟩), Int.toNat_natCast]
  dsimp only
  rw [hp]; rfl
theorem ord_again (ws : List B) (nx : Nat) (b : B) : (ord ws 3 nx 0).rewrite 0 b = (ord ws 3 nx 0, [52, 51]) := rfl
theorem ord_no (ws : List B) (nx la : Nat) (b : B) : (ord ws 1 nx la).rewrite 0 b = (ord ws 1 nx la, [52, 57]) := rfl
theorem ord_close (ws : List B) (md nx la : Nat) (h : md ≠ 0) : (ord ws md nx la).close = (ord ws 0 nx la, good) := by
  unfold M.close
  rw [if_neg (show ¬ (ord ws md nx la).mode = 0 from h)]; rfl
theorem ord_open (ws : List B) (nx la md : Nat) (h : md = 1 ∨ md = 3 ∨ md = 4) : (ord ws 0 nx la).open md = (ord ws md 1 0, good) := by
  rcases h with rfl | rfl | rfl <;> rfl
theorem ord_new : (⟨false, 6, false, [], 0, 0, 0⟩ : M).open 2 = (ord [] 2 1 0, good) := rfl
end R
end Go.Proofs.YtjbepnkchoaipaaGreat
