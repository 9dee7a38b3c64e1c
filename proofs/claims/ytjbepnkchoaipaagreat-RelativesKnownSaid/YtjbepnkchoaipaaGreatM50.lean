import Derived.Test.YtjbepnkchoaipaaGreatM41
import Derived.Test.YtjbepnkchoaipaaGreatM43
set_option linter.unusedVariables false
set_option linter.unusedSimpArgs false
/- Law 31: rows of the law's own beside a file. -/
namespace Go.Proofs.YtjbepnkchoaipaaGreat
open Go.RowKit Go.Lib Go.Maps Go.WideMaps Go.Sort
set_option maxRecDepth 100000
section
variable {w0 : World} {p pf : Nat} {nm : J.B} {u : Nat} {fs fs1 : List (Nat × Obj)} {m m' : R.M} {L : List (List (J.B × J.B))} {w w' W W' : World} {s : J.St}
/-- A block turns, and new ones are laid. -/
theorem At.turnAdd {b : Nat} {o o' : Obj} (h : At w0 p ((b, o) :: fs) s w) (hf : ∀ x ∈ fs, x.1 ≠ b) (ht : J.Two s) (hn : NoBy w b) (hg : w.grownBy w' (some b)) (hr : w'.heap[b]? = some o') {gs : List (Nat × Obj)} (hgs : ∀ x ∈ gs, w.heap.size ≤ x.1 ∧ w'.heap[x.1]? = some x.2) : At w0 p ((b, o') :: (gs ++ fs)) s w' := by
  obtain ⟨M, h1, h2, h3, h4⟩ := h
  obtain ⟨g1, g2, g3⟩ := h4 _ List.mem_cons_self
  refine ⟨M, h1.oth ht (Oth.of_grown hg (fun k e => by injection e with e; subst e; exact ⟨g2, hn⟩)), fun k hk => ⟨(h2 k hk).1, Nat.lt_of_lt_of_le (h2 k hk).2 hg.size⟩, h3.grown hg h3.size (fun k e => by injection e with e; subst e; exact g1), fun x hx => ?_⟩
  rcases List.mem_cons.1 hx with rfl | hx
  · exact ⟨g1, g2, hr⟩
  · rcases List.mem_append.1 hx with hx | hx
    · exact ⟨Nat.le_trans h3.size (hgs x hx).1, fun hm => by have := (h2 _ hm).2; have := (hgs x hx).1; omega, (hgs x hx).2⟩
    · obtain ⟨k1, k2, k3⟩ := h4 x (List.mem_cons_of_mem _ hx)
      exact ⟨k1, k2, (hg.block x.1 (Array.getElem?_eq_some_iff.1 k3).1 (fun e => hf x hx (by injection e))).trans k3⟩
/-- A row of one's own, whose block is named. -/
structure OwnIn (fs : List (Nat × Obj)) (base : Nat) (e : TypeId) (v : Value) (n : Nat) (xs : List Value) (pr : Value → Prop) : Prop where
  row : ∀ W : World, (∀ x ∈ fs, W.heap[x.1]? = some x.2) → W.ownsRow base e 1 v n xs ∧ RowP pr W v
  blk : (v.ownBlock = none ∧ fs = []) ∨ ∃ g o, v.ownBlock = some g ∧ fs = [(g, o)]
theorem ownIn_nil (base : Nat) (e : TypeId) (pr : Value → Prop) : OwnIn [] base e (.slice none 0 0) 0 [] pr :=
  ⟨fun W _ => ⟨World.ownsRow_nil W base e 1, fun g hg => by cases hg⟩, .inl ⟨rfl, rfl⟩⟩
theorem ownIn_of {base : Nat} {e : TypeId} {v : Value} {n : Nat} {xs : List Value} {pr : Value → Prop} (h : W.ownsRow base e 1 v n xs) (hp : RowP pr W v) : ∃ fs, OwnIn fs base e v n xs pr ∧ ∀ x ∈ fs, W.heap[x.1]? = some x.2 ∧ v.ownBlock = some x.1 := by
  cases hv : v.ownBlock with
  | none =>
    refine ⟨[], ⟨fun W' _ => ⟨own_same h (fun k e => by rw [hv] at e; cases e), fun g hg => by rw [hv] at hg; cases hg⟩, .inl ⟨hv, rfl⟩⟩, fun x hx => by cases hx⟩
  | some g =>
    have hl := (h.lt g hv).2
    have ho : W.heap[g]? = some W.heap[g] := Array.getElem?_eq_getElem hl
    refine ⟨[(g, W.heap[g])], ⟨fun W' hW => ?_, .inr ⟨g, _, hv, rfl⟩⟩, fun x hx => ?_⟩
    · have hg := hW _ List.mem_cons_self
      have hs : ∀ k, v.ownBlock = some k → W'.heap[k]? = W.heap[k]? := fun k e => by
        rw [hv] at e; injection e with e; subst e
        exact hg.trans ho.symm
      exact ⟨own_same h hs, hp.same hs⟩
    · simp only [List.mem_singleton] at hx; subst hx
      exact ⟨ho, rfl⟩
theorem K.get (h : K w0 p pf nm u fs m L W) {x : Nat × Obj} (hx : x ∈ fs) : W.heap[x.1]? = some x.2 := by
  obtain ⟨s, h1, _⟩ := h
  exact h1.get (List.mem_cons_of_mem _ hx)
theorem rowP_noBy {pr : Value → Prop} {base : Nat} {e : TypeId} {v : Value} {n g : Nat} {xs : List Value} (h : W.ownsRow base e 1 v n xs) (hp : RowP pr W v) (hv : v.ownBlock = some g) (hpr : ∀ u : UInt8, ¬ pr (u8 u)) (he : e ≠ 5) : NoBy W g := by
  refine ⟨fun o a b hh => hpr a (hp.cell hv hh.1), fun ⟨_, cur, fr, hh⟩ => ?_⟩
  rcases h.2 with ⟨rfl, _⟩ | ⟨g', cap, cur', rfl, _, hg, _⟩
  · cases hv
  · have : g' = g := by simpa [Value.ownBlock] using hv
    subst this
    rw [hg] at hh
    injection hh with hh
    injection hh with _ hh
    exact he hh
/-- The row grows, or is stored into. -/
theorem K.grow {base : Nat} {e : TypeId} {v v' : Value} {n n' : Nat} {xs xs' : List Value} {pr : Value → Prop} (h : K w0 p pf nm u (fs1 ++ fs) m L W) (ho : OwnIn fs1 base e v n xs pr) (hpr : ∀ u : UInt8, ¬ pr (u8 u)) (he : e ≠ 5) (hd : ∀ x ∈ fs1, ∀ y ∈ fs, y.1 ≠ x.1)
    (hg : W.grownBy W' v.ownBlock) (hloc : v'.ownBlock = v.ownBlock ∨ v'.ownBlock = some W.heap.size) (hrow : W'.ownsRow base e 1 v' n' xs') (hp : RowP pr W' v') :
    ∃ fs1', K w0 p pf nm u (fs1' ++ fs) m L W' ∧ OwnIn fs1' base e v' n' xs' pr ∧ ∀ x ∈ fs1', ∀ y ∈ fs, y.1 ≠ x.1 := by
  obtain ⟨fs1', ho', hx'⟩ := ownIn_of hrow hp
  have hfl : ∀ y ∈ fs, y.1 < W.heap.size := fun y hy => (Array.getElem?_eq_some_iff.1 (h.get (List.mem_append_right _ hy))).1
  obtain ⟨s, h1, h2, h3, h4⟩ := h
  rcases ho.blk with ⟨hv, rfl⟩ | ⟨g, o, hv, rfl⟩
  · rw [hv] at hg
    have hb : Below W.heap.size W W' := ⟨hg.os, hg.tape, hg.output, hg.size, fun k hk => hg.block k hk (fun e => by cases e)⟩
    have hge : ∀ x ∈ fs1', W.heap.size ≤ x.1 := fun x hx => by
      rcases hloc with e | e
      · rw [hv, (hx' x hx).2] at e; cases e
      · rw [(hx' x hx).2] at e; injection e with e; omega
    have hA := (h1.add hb (gs := fs1') (fun x hx => ⟨hge x hx, (hx' x hx).1⟩)).less (gs := (pf, fileO p nm m.rel m.size m.mode m.next m.last) :: (fs1' ++ fs)) (fun x hx => by
      simp only [List.mem_cons, List.mem_append] at hx ⊢
      rcases hx with h | h | h
      · exact .inr (.inl h)
      · exact .inl h
      · exact .inr (.inr (.inr h)))
    have hpl := (Array.getElem?_eq_some_iff.1 (h1.get List.mem_cons_self)).1
    have hpl : pf < W.heap.size := hpl
    refine ⟨fs1', ⟨s, hA, h2, fun x hx => ?_, h4⟩, ho', fun x hx y hy => by have := hge x hx; have := hfl y hy; omega⟩
    rcases List.mem_append.1 hx with hx | hx
    · have := hge x hx; omega
    · exact h3 x (List.mem_append_right _ hx)
  · rw [hv] at hg
    obtain ⟨r1, r2⟩ := ho.row W (fun x hx => h1.get (List.mem_cons_of_mem _ (List.mem_append_left _ hx)))
    have hgl := (r1.lt g hv).2
    have hno := rowP_noBy r1 r2 hv hpr he
    have hA : At w0 p ((g, o) :: (pf, fileO p nm m.rel m.size m.mode m.next m.last) :: fs) s W := h1.less (fun x hx => by
      simp only [List.mem_cons, List.mem_append, List.not_mem_nil, or_false] at hx ⊢
      rcases hx with h | h | h
      · exact .inr (.inl h)
      · exact .inl h
      · exact .inr (.inr h))
    have hgp : g ≠ pf := h3 (g, o) (List.mem_append_left _ List.mem_cons_self)
    have hgl' : g < W'.heap.size := Nat.lt_of_lt_of_le hgl hg.size
    have hnew : ∀ x ∈ fs1', x.1 = g ∨ W.heap.size ≤ x.1 := fun x hx => by
      rcases hloc with e | e
      · rw [hv, (hx' x hx).2] at e; injection e with e; exact .inl e
      · rw [(hx' x hx).2] at e; injection e with e; exact .inr (by omega)
    have hT := hA.turnAdd (o' := W'.heap[g]) (gs := fs1'.filter (fun x => decide (W.heap.size ≤ x.1))) (fun x hx => by
      rcases List.mem_cons.1 hx with rfl | hx
      · exact hgp.symm
      · exact hd _ List.mem_cons_self x hx) h2.sto.two hno hg (Array.getElem?_eq_getElem hgl') (fun x hx => by
        obtain ⟨q1, q2⟩ := List.mem_filter.1 hx
        exact ⟨by simpa using q2, (hx' x q1).1⟩)
    refine ⟨fs1', ⟨s, hT.less (fun x hx => ?_), h2, fun x hx => ?_, h4⟩, ho', fun x hx y hy => ?_⟩
    · simp only [List.mem_cons, List.mem_append] at hx ⊢
      rcases hx with h | h | h
      · exact .inr (.inr (.inl h))
      · rcases hnew x h with e | e
        · left
          have q := (hx' x h).1
          rw [e, Array.getElem?_eq_getElem hgl'] at q
          injection q with q
          exact Prod.ext e q.symm
        · exact .inr (.inl (List.mem_filter.2 ⟨h, by simpa using e⟩))
      · exact .inr (.inr (.inr h))
    · rcases List.mem_append.1 hx with hx | hx
      · rcases hnew x hx with e | e
        · rw [e]; exact hgp
        · have hpl := (Array.getElem?_eq_some_iff.1 (h1.get List.mem_cons_self)).1
          have hpl : pf < W.heap.size := hpl
          omega
      · exact h3 x (List.mem_append_right _ hx)
    · rcases hnew x hx with e | e
      · rw [e]; exact hd _ List.mem_cons_self y hy
      · have := hfl y hy; omega
theorem KX.grow {base : Nat} {e : TypeId} {v v' : Value} {n n' : Nat} {xs xs' : List Value} {pr : Value → Prop} (h : KX w0 p pf nm u (fs1 ++ fs) m W) (ho : OwnIn fs1 base e v n xs pr) (hpr : ∀ u : UInt8, ¬ pr (u8 u)) (he : e ≠ 5) (hd : ∀ x ∈ fs1, ∀ y ∈ fs, y.1 ≠ x.1)
    (hg : W.grownBy W' v.ownBlock) (hloc : v'.ownBlock = v.ownBlock ∨ v'.ownBlock = some W.heap.size) (hrow : W'.ownsRow base e 1 v' n' xs') (hp : RowP pr W' v') :
    ∃ fs1', KX w0 p pf nm u (fs1' ++ fs) m W' ∧ OwnIn fs1' base e v' n' xs' pr ∧ ∀ x ∈ fs1', ∀ y ∈ fs, y.1 ≠ x.1 := by
  obtain ⟨L, h⟩ := h
  obtain ⟨f, h1, h2⟩ := h.grow ho hpr he hd hg hloc hrow hp
  exact ⟨f, ⟨L, h1⟩, h2⟩
theorem KX.own {base : Nat} {e : TypeId} {v : Value} {n : Nat} {xs : List Value} {pr : Value → Prop} (h : KX w0 p pf nm u fs m W) (ho : OwnIn fs1 base e v n xs pr) (hs : ∀ x ∈ fs1, x ∈ fs) : W.ownsRow base e 1 v n xs ∧ RowP pr W v := by
  obtain ⟨L, h⟩ := h
  exact ho.row W (fun x hx => h.get (hs x hx))
/-- A store into a row. -/
theorem rowP_set {pr : Value → Prop} {v : Value} {g j : Nat} {x : Value} (h : RowP pr W v) (hv : v.ownBlock = some g) (hx : pr x) : RowP pr (W.setCell ⟨g, j, none⟩ x) v := by
  intro g' hg'
  rw [hv] at hg'; injection hg' with hg'; subst hg'
  obtain ⟨cur, e, fr, h1, h2⟩ := h g hv
  refine ⟨cur.setIfInBounds j x, e, fr, by simp [World.setCell, Array.getElem?_modify, h1], fun y hy => ?_⟩
  rw [Array.toList_setIfInBounds] at hy
  rcases List.mem_or_eq_of_mem_set hy with h | h
  · exact h2 y h
  · subst h; exact hx
/-- A row of bytes that is new is laid beside the file. -/
theorem src_own {base n : Nat} {v : Value} {b : J.B} (h : W.ownsRow base 5 1 v n (u8s b)) (hb : b ≠ []) (hk : KX w0 p pf nm u fs m w) (hB : Below w.heap.size w W) (hbase : w.heap.size ≤ base) : ∃ x : Nat × Obj, KX w0 p pf nm u (x :: fs) m W ∧ Src w0 p (x :: fs) v b ∧ w.heap.size ≤ x.1 := by
  have hn : 0 < n := by
    have h1 := h.1
    rw [u8s_len] at h1
    have : b.length ≠ 0 := fun e => hb (List.eq_nil_of_length_eq_zero e)
    omega
  rcases h.2 with ⟨_, h0⟩ | ⟨g, cap, cur, rfl, hbg, hg, hnc, hcm, hcs, htake⟩
  · omega
  · obtain ⟨L, s, h1, h2, h3, h4⟩ := hk
    have hpl := (Array.getElem?_eq_some_iff.1 (h1.get List.mem_cons_self)).1
    have hpl : pf < w.heap.size := hpl
    have hA := (h1.add hB (gs := [(g, .cells cur 5 (0, 0))]) (fun x hx => by
      simp only [List.mem_singleton] at hx; subst hx
      exact ⟨Nat.le_trans hbase hbg, hg⟩)).less (gs := (pf, fileO p nm m.rel m.size m.mode m.next m.last) :: (g, .cells cur 5 (0, 0)) :: fs) (fun x hx => by
        simp only [List.mem_cons, List.mem_append, List.not_mem_nil, or_false] at hx ⊢
        rcases hx with h | h | h
        · exact .inr (.inl h)
        · exact .inl h
        · exact .inr (.inr h))
    have hgw : w.heap.size ≤ g := Nat.le_trans hbase hbg
    refine ⟨(g, .cells cur 5 (0, 0)), ⟨L, s, hA, h2, fun x hx => ?_, h4⟩, fun gs t w1 hgs ha => ?_, hgw⟩
    · rcases List.mem_cons.1 hx with rfl | hx
      · show g ≠ pf; omega
      · exact h3 x hx
    · have hr := ha.get (hgs _ List.mem_cons_self)
      have hr : w1.heap[g]? = some (.cells cur 5 (0, 0)) := hr
      refine own_slN (base := base) ⟨h.1, .inr ⟨g, cap, cur, rfl, hbg, hr, hnc, hcm, hcs, htake⟩⟩
end
end Go.Proofs.YtjbepnkchoaipaaGreat
