import Derived.Test.YtjbepnkchoaipaaGreatM36
import Derived.Test.YtjbepnkchoaipaaGreatM45
import Derived.Test.YtjbepnkchoaipaaGreatM41
import Derived.Test.YtjbepnkchoaipaaGreatM44
set_option linter.unusedVariables false
set_option linter.unusedSimpArgs false
/- Law 31: acts in memory; big. -/
namespace Go.Proofs.YtjbepnkchoaipaaGreat
open Go.RowKit Go.Lib
set_option maxRecDepth 100000
namespace R
structure Ac where
  what : Nat
  n : Nat
  val : B
def units (L : List Ac) : Nat := (L.map fun a => 1 + a.val.length / 8).sum
theorem units_snoc (L : List Ac) (k : Nat) (h : k < L.length) : units (L.take (k + 1)) = units (L.take k) + (1 + L[k].val.length / 8) := by
  unfold units
  rw [List.take_succ_eq_append_getElem h, List.map_append, List.sum_append]; simp
theorem units_take (L : List Ac) (k : Nat) : units (L.take k) ≤ units L := by
  unfold units
  conv => rhs; rw [← List.take_append_drop k L, List.map_append, List.sum_append]
  omega
theorem units_len (L : List Ac) : L.length ≤ units L := by
  unfold units
  induction L with
  | nil => exact Nat.le_refl _
  | cons a t ih => simp only [List.map_cons, List.sum_cons, List.length_cons]; omega
theorem units_le (L : List Ac) (a : Ac) (h : a ∈ L) : 1 + a.val.length / 8 ≤ units L := by
  unfold units
  induction L with
  | nil => cases h
  | cons b t ih =>
    simp only [List.map_cons, List.sum_cons]
    rcases List.mem_cons.1 h with rfl | h
    · omega
    · have := ih h; omega
end R
/-- Acts that are read. -/
def ActsAt (w : World) (M : Nat → Prop) (A : Option Addr) (L : List R.Ac) : Prop :=
  0 < L.length → ∃ b o, A = some ⟨b, o, none⟩ ∧ b < w.heap.size ∧ ¬ M b ∧ ∀ i (h : i < L.length), w.cell? ⟨b, o + i * 3, none⟩ = some (.int .u8 L[i].what) ∧ w.cell? ⟨b, o + i * 3 + 1, none⟩ = some (.int .u16 L[i].n) ∧
    (∃ v, w.cell? ⟨b, o + i * 3 + 2, none⟩ = some v ∧ Sl w M v L[i].val) ∧ L[i].what < 256 ∧ L[i].n < 65536
theorem ActsAt.step {w w' : World} {M M' : Nat → Prop} {A : Option Addr} {L : List R.Ac} (h : ActsAt w M A L) (hs : Step M M' w w') : ActsAt w' M' A L := fun hn => by
  obtain ⟨b, o, e, hb, hM, hc⟩ := h hn
  refine ⟨b, o, e, Nat.lt_of_lt_of_le hb hs.size, fun hm => hM (hs.sub b hb hm), fun i hi => ?_⟩
  obtain ⟨h1, h2, ⟨v, h3, h4⟩, h5, h6⟩ := hc i hi
  exact ⟨(hs.cell (a := ⟨b, o + i * 3, none⟩) hb hM).trans h1, (hs.cell (a := ⟨b, o + i * 3 + 1, none⟩) hb hM).trans h2, ⟨v, (hs.cell (a := ⟨b, o + i * 3 + 2, none⟩) hb hM).trans h3, h4.step hs⟩, h5, h6⟩
theorem ActsAt.weak {w : World} {M M' : Nat → Prop} {A : Option Addr} {L : List R.Ac} (h : ActsAt w M A L) (hM : ∀ k, M' k → M k) : ActsAt w M' A L := fun hn => by
  obtain ⟨b, o, e, hb, hm, hc⟩ := h hn
  refine ⟨b, o, e, hb, fun h => hm (hM b h), fun i hi => ?_⟩
  obtain ⟨h1, h2, ⟨v, h3, h4⟩, h5, h6⟩ := hc i hi
  exact ⟨h1, h2, ⟨v, h3, h4.weak hM⟩, h5, h6⟩
theorem big_any (A : Option Addr) (c : Nat) (L : List R.Ac) (most : Nat) (w : World) (h : ActsAt w NoM A L) (hm : most ≤ 1000) (hl : L.length ≤ 9223372036854775807) (hv : ∀ a ∈ L, a.val.length ≤ 9223372036854775807) :
    Calls Tryz.prog 15 #[.slice A L.length c, .int .i64 most] w fun e w' => e = .returned (.bool (decide (most < R.units L))) ∧ w = w' := by
  have H := Lib.hid h
  have HV := Lib.hid hv
  have hl0 : (L.length : Int) ≤ 9223372036854775807 := by omega
  clear h hv
  go_enter Tryz.func15, Tryz.ntmps15
  go_wp2
  go_loop [5, 6] (fun n i => ∃ k : Nat, k ≤ L.length ∧ i = .int .i64 k ∧ n = .int .i64 (R.units (L.take k) : Nat) ∧ R.units (L.take k) ≤ 1152921504606848000) (fun _ i => L.length - (intOf i).toNat)
  case atStart => exact ⟨0, Nat.zero_le _, rfl, rfl, Nat.zero_le _⟩
  case round =>
    obtain ⟨k, hk, rfl, rfl, hu⟩ := hrel
    by_cases hlt : k < L.length
    · by_cases hmu : R.units (L.take k) ≤ most
      · obtain ⟨b, o, rfl, hb, _, hc⟩ := H.out (by omega)
        obtain ⟨_, _, ⟨v, h3, h4⟩, _, _⟩ := hc k hlt
        obtain ⟨Av, cv, rfl, _, hby⟩ := h4.by
        have HS := Lib.hid (R.units_snoc L k hlt)
        have hvl := HV.out _ (List.getElem_mem hlt)
        clear h4 hby hc
        generalize L[k].val.length = n at h3 HS hvl
        have hn0 : (n : Int) ≤ 9223372036854775807 := by omega
        have hn1 : (0 : Int) ≤ (n : Int) := by omega
        have hq : (n : Int).tdiv 8 = ((n / 8 : Nat) : Int) := rfl
        generalize R.units (L.take k) = U at hu hmu HS
        have hU : (U : Int) ≤ most := by omega
        go_wp2
        go_round
        case rel => exact ⟨k + 1, by omega, by go_num, by rw [HS.out]; congr 1; omega, by rw [HS.out]; omega⟩
        case measure => simp [intOf]; omega
      · have hmu2 : ¬ (R.units (L.take k) : Int) ≤ (most : Int) := by omega
        have HU := Lib.hid (Nat.lt_of_lt_of_le (Nat.lt_of_not_le hmu) (R.units_take L k))
        go_wp2
        go_ret
        exact ⟨ret_bool (by rw [decide_eq_true HU.out]; simp; omega), rfl⟩
    · obtain rfl : k = L.length := by omega
      rw [List.take_length] at hu ⊢
      go_wp2
      go_ret
      exact ⟨ret_bool (by simp), rfl⟩
end Go.Proofs.YtjbepnkchoaipaaGreat
/- Law 31: a file beside the law's model. -/
namespace Go.Proofs.YtjbepnkchoaipaaGreat
open Go.RowKit Go.Lib Go.Maps Go.WideMaps Go.Sort
set_option maxRecDepth 100000
/-- The block of a slice of pairs. -/
def RIn (rb : List (Nat × Obj)) (v : Value) (l : R.Rows) : Prop := (v = .slice none 0 0 ∧ l = [] ∧ rb = []) ∨ ∃ g c o, v = .slice (some ⟨g, 0, none⟩) l.length c ∧ l.length ≤ c ∧ rb = [(g, o)] ∧ ∀ W : World, W.heap[g]? = some o → ∀ j u, (rwCells l)[j]? = some u → W.cell? ⟨g, j, none⟩ = some u
abbrev mdO (m : R.M) (v : Value) : Obj := modO m.rel m.size m.there v m.mode m.next m.last
/-- A file with its model mf, and the law's model mm in the block q. -/
def D3 (w0 : World) (p pf : Nat) (nm : J.B) (u q : Nat) (fs : List (Nat × Obj)) (mf mm : R.M) (L : List (List (J.B × J.B))) (v : Value) (rb : List (Nat × Obj)) (w : World) : Prop :=
  K w0 p pf nm u ((q, mdO mm v) :: (rb ++ fs)) mf L w ∧ RIn rb v mm.rows ∧ ∀ x ∈ rb ++ fs, x.1 ≠ q
section
variable {w0 : World} {p pf q : Nat} {nm : J.B} {u : Nat} {fs rb : List (Nat × Obj)} {mf mm : R.M} {L : List (List (J.B × J.B))} {v : Value} {w w' : World}
theorem mod_noBy {rel there : Bool} {size mode nxt last : Nat} {A : Option Addr} {n c : Nat} (h : w.heap[q]? = some (modO rel size there (.slice A n c) mode nxt last)) : NoBy w q := by
  refine ⟨fun o u v hh => ?_, fun ⟨_, cur, fr, e⟩ => ?_⟩
  · rw [cell_of_row w q o _ _ _ h, cell_of_row w q (o + 1) _ _ _ h] at hh
    obtain ⟨h1, h2⟩ := hh
    rcases o with _ | _ | _ | _ | _ | _ | _ | o <;> simp at h1 h2
  · rw [h] at e
    injection e with e
    injection e with e1 e2
    exact absurd e2 (by decide)
theorem D3.below (h : D3 w0 p pf nm u q fs mf mm L v rb w) (hb : Below w.heap.size w w') : D3 w0 p pf nm u q fs mf mm L v rb w' := ⟨h.1.below hb, h.2⟩
theorem D3.row (h : D3 w0 p pf nm u q fs mf mm L v rb w) : w.heap[q]? = some (mdO mm v) := by
  obtain ⟨⟨s, h1, _⟩, _⟩ := h
  exact h1.get (List.mem_cons_of_mem _ List.mem_cons_self)
theorem D3.fewer {gs : List (Nat × Obj)} (h : D3 w0 p pf nm u q fs mf mm L v rb w) (hg : ∀ x ∈ gs, x ∈ fs) : D3 w0 p pf nm u q gs mf mm L v rb w := by
  refine ⟨h.1.fewer (fun x hx => ?_), h.2.1, fun x hx => ?_⟩
  · simp only [List.mem_cons, List.mem_append] at hx ⊢
    rcases hx with h | h | h
    · exact .inl h
    · exact .inr (.inl h)
    · exact .inr (.inr (hg x h))
  · refine h.2.2 x ?_
    simp only [List.mem_append] at hx ⊢
    rcases hx with h | h
    · exact .inl h
    · exact .inr (hg x h)
theorem D3.sl (h : D3 w0 p pf nm u q fs mf mm L v rb w) : ∃ A c, v = .slice A mm.rows.length c := by
  rcases h.2.1 with ⟨e, e2, _⟩ | ⟨g, c, o, e, _⟩
  · exact ⟨none, 0, by rw [e, e2]; rfl⟩
  · exact ⟨_, c, e⟩
/-- Blocks that are none of fs, but for those of rb. -/
def NewIn (rb' rb fs : List (Nat × Obj)) : Prop := ∀ x ∈ rb', ∀ y ∈ fs, y.1 = x.1 → ∃ z ∈ rb, z.1 = x.1
/-- What the law's model does beside the file. -/
theorem D3.model (h : D3 w0 p pf nm u q fs mf mm L v rb w) : ∃ M : Nat → Prop, (∀ k, M k → k < w.heap.size) ∧ MdR w q M mm ∧ ∀ mm' w', MR w q M mm' w' → ∃ v' rb', D3 w0 p pf nm u q (rb ++ fs) mf mm' L v' rb' w' ∧ NewIn rb' rb fs := by
  have hrow := h.row
  obtain ⟨A0, c0, hv0⟩ := h.sl
  obtain ⟨⟨s, hA, hk, hf, hnm⟩, hr, hq⟩ := h
  obtain ⟨M, h1, h2, h3, h4⟩ := hA
  have hql := (Array.getElem?_eq_some_iff.1 hrow).1
  have hql : q < w.heap.size := hql
  have hpl := (Array.getElem?_eq_some_iff.1 (h4 _ List.mem_cons_self).2.2).1
  have hpl : pf < w.heap.size := hpl
  have hqp : q ≠ pf := hf _ List.mem_cons_self
  have hnb : NoBy w q := by
    rw [hv0] at hrow
    exact mod_noBy hrow
  refine ⟨fun k => M k ∨ k < w0.heap.size ∨ k = q ∨ k = pf ∨ ((∃ y ∈ fs, y.1 = k) ∧ ¬ ∃ z ∈ rb, z.1 = k), fun k hk => ?_, ⟨v, hrow, ?_⟩, fun mm' w' ⟨hg, v', hrow', hv'⟩ => ?_⟩
  · rcases hk with h | h | h | h | ⟨⟨y, hy, rfl⟩, _⟩
    · exact (h2 k h).2
    · exact Nat.lt_of_lt_of_le h h3.size
    · omega
    · omega
    · exact (Array.getElem?_eq_some_iff.1 (h4 y (List.mem_cons_of_mem _ (List.mem_cons_of_mem _ (List.mem_append_right _ hy)))).2.2).1
  · rcases hr with ⟨e1, e2, _⟩ | ⟨g, c, o, e1, e2, e3, e4⟩
    · exact .inl ⟨e1, e2⟩
    · have hm : (g, o) ∈ rb := by rw [e3]; exact List.mem_singleton_self _
      obtain ⟨k1, k2, k3⟩ := h4 (g, o) (List.mem_cons_of_mem _ (List.mem_cons_of_mem _ (List.mem_append_left _ hm)))
      have k1 : w0.heap.size ≤ g := k1
      have k2 : ¬ M g := k2
      have k3 : w.heap[g]? = some o := k3
      have n1 : g ≠ q := hq (g, o) (List.mem_append_left _ hm)
      have n2 : g ≠ pf := hf (g, o) (List.mem_cons_of_mem _ (List.mem_append_left _ hm))
      refine .inr ⟨g, c, e1, e2, (Array.getElem?_eq_some_iff.1 k3).1, fun hh => ?_, e4 w k3⟩
      rcases hh with h | h | h | h | ⟨_, h⟩
      · exact k2 h
      · omega
      · exact n1 h
      · exact n2 h
      · exact h ⟨(g, o), hm, rfl⟩
  · obtain ⟨g1, g2, g3⟩ := h4 (q, mdO mm v) (List.mem_cons_of_mem _ List.mem_cons_self)
    have hold : ∀ x ∈ (pf, fileO p nm mf.rel mf.size mf.mode mf.next mf.last) :: (rb ++ fs), w0.heap.size ≤ x.1 ∧ ¬ M x.1 ∧ w'.heap[x.1]? = some x.2 := fun x hx => by
      have hx' : x ∈ (pf, fileO p nm mf.rel mf.size mf.mode mf.next mf.last) :: (q, mdO mm v) :: (rb ++ fs) := by
        rcases List.mem_cons.1 hx with h | h
        · exact h ▸ List.mem_cons_self
        · exact List.mem_cons_of_mem _ (List.mem_cons_of_mem _ h)
      obtain ⟨k1, k2, k3⟩ := h4 x hx'
      have hne : x.1 ≠ q := by
        rcases List.mem_cons.1 hx with h | h
        · rw [h]; exact hqp.symm
        · exact hq x h
      exact ⟨k1, k2, (hg.block x.1 (Array.getElem?_eq_some_iff.1 k3).1 (fun e => hne (by injection e))).trans k3⟩
    have hst := h1.oth hk.sto.two (Oth.of_grown hg (fun k e => by injection e with e; subst e; exact ⟨g2, hnb⟩))
    have hbl := h3.grown hg h3.size (fun k e => by injection e with e; subst e; exact g1)
    have hmk : ∀ rb', (∀ x ∈ rb', w0.heap.size ≤ x.1 ∧ ¬ M x.1 ∧ w'.heap[x.1]? = some x.2 ∧ x.1 ≠ q ∧ x.1 ≠ pf) → K w0 p pf nm u ((q, mdO mm' v') :: (rb' ++ (rb ++ fs))) mf L w' ∧ ∀ x ∈ rb' ++ (rb ++ fs), x.1 ≠ q := fun rb' hR' => by
      refine ⟨⟨s, ⟨M, hst, fun k hk => ⟨(h2 k hk).1, Nat.lt_of_lt_of_le (h2 k hk).2 hg.size⟩, hbl, fun x hx => ?_⟩, hk, fun x hx => ?_, hnm⟩, fun x hx => ?_⟩
      · rcases List.mem_cons.1 hx with hx | hx
        · exact hold x (hx ▸ List.mem_cons_self)
        · rcases List.mem_cons.1 hx with rfl | hx
          · exact ⟨g1, g2, hrow'⟩
          · rcases List.mem_append.1 hx with hx | hx
            · exact ⟨(hR' x hx).1, (hR' x hx).2.1, (hR' x hx).2.2.1⟩
            · exact hold x (List.mem_cons_of_mem _ hx)
      · rcases List.mem_cons.1 hx with rfl | hx
        · exact hqp
        · rcases List.mem_append.1 hx with hx | hx
          · exact (hR' x hx).2.2.2.2
          · exact hf x (List.mem_cons_of_mem _ hx)
      · rcases List.mem_append.1 hx with hx | hx
        · exact (hR' x hx).2.2.2.1
        · exact hq x hx
    rcases hv' with ⟨e1, e2⟩ | ⟨g, c, e1, e2, e3, e4, e5⟩
    · obtain ⟨a, b⟩ := hmk [] (fun x hx => by cases hx)
      exact ⟨v', [], ⟨a, .inl ⟨e1, e2, rfl⟩, b⟩, fun x hx => by cases hx⟩
    · have ho : w'.heap[g]? = some w'.heap[g] := Array.getElem?_eq_getElem e3
      obtain ⟨a, b⟩ := hmk [(g, w'.heap[g])] (fun x hx => by
        simp only [List.mem_singleton] at hx
        subst hx
        refine ⟨Nat.not_lt.1 (fun h => e4 (.inr (.inl h))), fun h => e4 (.inl h), ho, fun h => e4 (.inr (.inr (.inl h))), fun h => e4 (.inr (.inr (.inr (.inl h))))⟩)
      refine ⟨v', _, ⟨a, .inr ⟨g, c, _, e1, e2, rfl, fun W hW j u hu => (World.cell?_of_block (hW.trans ho.symm)).trans (e5 j u hu)⟩, b⟩, fun x hx y hy he => ?_⟩
      simp only [List.mem_singleton] at hx
      subst hx
      exact Classical.byContradiction fun hn => e4 (.inr (.inr (.inr (.inr ⟨⟨y, hy, he⟩, hn⟩))))
end
end Go.Proofs.YtjbepnkchoaipaaGreat
/- Law 31: does, the plain half, and what it needs. -/
namespace Go.Proofs.YtjbepnkchoaipaaGreat
open Go.RowKit Go.Lib Go.Maps Go.WideMaps Go.Sort
set_option maxRecDepth 100000
namespace R
def Ac.k (a : Ac) : Int := ((a.n % 12 : Nat) : Int) - 1
def Ac.k2 (a : Ac) : Int := a.k * ((a.n / 12 % 2 : Nat) : Int)
/-- What an act makes of the model. -/
def M.does (m : M) (a : Ac) : M :=
  match a.what % 12 with
  | 0 => (m.open (a.n % 6)).1
  | 1 => (m.open (a.n % 6)).1
  | 2 => m.close.1
  | 3 => m.nextR.1
  | 4 => m.nextR.1
  | 5 => m.nextR.1
  | 6 => (m.readR a.k).1
  | 7 => (m.append a.val).1
  | 8 => (m.write a.k a.val).1
  | 9 => (m.rewrite a.k2 a.val).1
  | 10 => (m.delete a.k2).1
  | _ => (m.start (a.n / 12 % 6) a.k).1
end R
section
variable {w0 : World} {p pf q : Nat} {nm : J.B} {u : Nat} {fs rb : List (Nat × Obj)} {mf mm m m' : R.M} {L : List (List (J.B × J.B))} {v : Value} {w w' : World}
theorem D3.more (h : D3 w0 p pf nm u q fs mf mm L v rb w) (o : Obj) : D3 w0 p pf nm u q ((w.heap.size, o) :: fs) mf mm L v rb (w.alloc o) := by
  have hq := (Array.getElem?_eq_some_iff.1 h.row).1
  refine ⟨(h.1.more o).fewer (fun x hx => ?_), h.2.1, fun x hx => ?_⟩
  · simp only [List.mem_cons, List.mem_append] at hx ⊢
    rcases hx with h | h | h | h
    · exact .inr (.inl h)
    · exact .inr (.inr (.inl h))
    · exact .inl h
    · exact .inr (.inr (.inr h))
  · simp only [List.mem_cons, List.mem_append] at hx
    rcases hx with h1 | rfl | h1
    · exact h.2.2 x (List.mem_append_left _ h1)
    · show w.heap.size ≠ q
      omega
    · exact h.2.2 x (List.mem_append_right _ h1)
theorem D3.get (h : D3 w0 p pf nm u q fs mf mm L v rb w) {x : Nat × Obj} (hx : x ∈ fs) : w.heap[x.1]? = some x.2 := by
  obtain ⟨⟨s, h1, _⟩, _⟩ := h
  exact h1.get (List.mem_cons_of_mem _ (List.mem_cons_of_mem _ (List.mem_append_right _ hx)))
theorem D3.mok (h : D3 w0 p pf nm u q fs mf mm L v rb w) : R.MOk u mf := by
  obtain ⟨⟨s, _, h2, _⟩, _⟩ := h
  exact h2.mok
theorem D3.len (h : D3 w0 p pf nm u q fs m m L v rb w) (hu : u ≤ 340) : m.rows.length ≤ 1000000 := by
  have := h.mok.many
  omega
/-- What does leaves. -/
def DoQ (w0 : World) (p pf : Nat) (nm : J.B) (u q : Nat) (fs rb : List (Nat × Obj)) (m' : R.M) (L : List (List (J.B × J.B))) (e : Ending) (w' : World) : Prop :=
  e = .returned (.bool true) ∧ ∃ L' v' rb', R.Ext nm L L' m' ∧ D3 w0 p pf nm (u + 1) q (rb ++ fs) m' m' L' v' rb' w' ∧ NewIn rb' rb fs
/-- What does needs. -/
structure DoIn (w0 : World) (p pf : Nat) (nm : J.B) (u q : Nat) (fs : List (Nat × Obj)) (m : R.M) (L : List (List (J.B × J.B))) (v : Value) (rb : List (Nat × Obj)) (n : Nat) (Av : Option Addr) (cv : Nat) (b : J.B) (w : World) : Prop where
  h : D3 w0 p pf nm u q fs m m L v rb w
  u : u ≤ 340
  src : ∀ fs, Src w0 p fs (.slice Av b.length cv) b
  by_ : By w NoM Av b.length b
  n : n < 65536
  bl : b.length ≤ 1000000
abbrev actO (what n : Nat) (Av : Option Addr) (k cv : Nat) : Obj := .cells #[.int .u8 what, .int .u16 n, .slice Av k cv] 54
theorem NewIn.cons {rb' rb fs : List (Nat × Obj)} {y : Nat × Obj} (h : NewIn rb' rb (y :: fs)) : NewIn rb' rb fs := fun x hx z hz => h x hx z (List.mem_cons_of_mem _ hz)
theorem sub_do {α : Type} {l r : List α} {y : α} : ∀ x ∈ l ++ r, x ∈ l ++ (y :: r) := fun x hx => by
  rcases List.mem_append.1 hx with h | h
  · exact List.mem_append_left _ h
  · exact List.mem_append_right _ (List.mem_cons_of_mem _ h)
theorem Slc.shape {M : Nat → Prop} {l : J.B} (h : Slc w M v l) : ∃ A, v = .slice A l.length l.length ∧ By w M A l.length l := by
  rcases h with ⟨rfl, rfl⟩ | ⟨b, o, rfl, _, _, _, hb⟩
  · exact ⟨none, rfl, By.nil_⟩
  · exact ⟨_, rfl, hb⟩
/-- Fresh bytes are still read behind the model's turn. -/
theorem slc_mr {M : Nat → Prop} {l : J.B} (h : Slc w M v l) (hg : w.grownBy w' (some q)) (hn : NoBy w q) : ∃ A, v = .slice A l.length l.length ∧ By w' NoM A l.length l := by
  have h1 : Slc w NoM v l := h.weak (fun _ h => h.elim)
  exact (h1.oth (Oth.of_grown hg (fun k e => by injection e with e; subst e; exact ⟨fun h => h, hn⟩))).shape
theorem D3.noBy (h : D3 w0 p pf nm u q fs mf mm L v rb w) : NoBy w q := by
  have hrow := h.row
  obtain ⟨A0, c0, hv0⟩ := h.sl
  rw [hv0] at hrow
  exact mod_noBy hrow
end
end Go.Proofs.YtjbepnkchoaipaaGreat
/- Law 31: does, some of its acts. Printed by gen_does.py. -/
namespace Go.Proofs.YtjbepnkchoaipaaGreat
open Go.RowKit Go.Lib Go.Maps Go.WideMaps Go.Sort
set_option maxRecDepth 100000
section
variable {w0 : World} {p pf q : Nat} {nm : J.B} {u : Nat} {fs rb : List (Nat × Obj)} {m : R.M} {L : List (List (J.B × J.B))} {v : Value}
set_option maxHeartbeats 4000000 in
theorem does_open0 (what n : Nat) (Av : Option Addr) (cv : Nat) (b : J.B) (w : World) (hin : DoIn w0 p pf nm u q fs m L v rb n Av cv b w) (hw : (what : Int).tmod 12 = 0) :
    Calls Tryz.prog 17 #[.pointer (some ⟨pf, 0, none⟩), .pointer (some ⟨q, 0, none⟩), .agg #[.int .u8 what, .int .u16 n, .slice Av b.length cv]] w (DoQ w0 p pf nm u q fs rb (m.open (n % 6)).1 L) := by
  have r6 : (n : Int).tmod 6 = ((n % 6 : Nat) : Int) := rfl
  have hd6 : n % 6 < 6 := Nat.mod_lt _ (by decide)
  generalize n % 6 = d6 at hd6 r6 ⊢
  have hbox := heap_alloc_new w (actO what n Av b.length cv)
  have hcb := fun j => cell_of_row _ w.heap.size j _ _ _ hbox
  have HD0 := Lib.hid (hin.h.more (actO what n Av b.length cv))
  have hby := hin.by_.below ((Below.refl _ w).alloc (Nat.le_refl _) (actO what n Av b.length cv))
  have r1 : (n : Int).tmod 12 = ((n % 12 : Nat) : Int) := rfl
  have hd : n % 12 < 12 := Nat.mod_lt _ (by decide)
  have hn := hin.n
  have HIN := Lib.hid hin
  obtain ⟨kk, hkk⟩ : ∃ kk : Int, kk = ((n % 12 : Nat) : Int) - 1 := ⟨_, rfl⟩
  have HKK := Lib.hid hkk
  have hk1 : -1 ≤ kk ∧ kk ≤ 10 := by omega
  clear hin hbox hkk
  generalize n % 12 = d at hd r1 HKK
  go_enter Tryz.func17, Tryz.ntmps17
  go_upto_region 2 with fail
  go_wp2_with (refine wpList_str_by rfl _ rfl Av b.length cv rfl hby ?_)
  refine wp_region_pm 11 (.rd 0 (.rd 1 (.rd 2 (.rd 3 (.rd 4 (.rd 6 (.rd 7 (.rd 8 (.rd 9 (.rd 10 (.wr 5 .fin))))))))))) (fun w' => ∀ j, w'.cell? ⟨w.heap.size, j, none⟩ = (#[.int .u8 what, .int .u16 n, .slice Av b.length cv] : Array Value)[j]?) (by kernel_rfl) (by kernel_rfl) (fun c a d v w h => by cases d <;> exact h) (fun j => hcb j) ?_
  have HDD := Lib.hid (HD0.out.below ((Below.refl _ _).drew))
  clear hcb hby
  generalize (w.alloc (actO what n Av b.length cv)).drew = w1 at HDD ⊢
  repeat
    refine wpPm_read (v := ?_) (by rfl) (by rfl) (fun w' hS => ?_) (fun K hK => ?_)
    rotate_left
    · have hcx := hS
      have hwr : IntKind.u8.wrap (d6 : Int) = d6 := by rw [IntKind.wrap_u8]; omega
      clear hS
      go_simp
      try with_reducible rfl
    go_simp
    refine hK _ ?_
    clear hK K
  refine wpPm_write (by rfl) (fun K hK => ?_)
  go_simp
  refine (k_open HDD.out.1 HIN.out.u d6).mono ?_
  rintro e w2 ⟨rfl, L', hE, hK2⟩
  have HE := Lib.hid hE
  have HD2 := Lib.hid (show D3 w0 p pf nm (u + 1) q _ (m.open d6).1 m L' v rb w2 from ⟨hK2, HDD.out.2⟩)
  have hcb2 := fun j => cell_of_row w2 w.heap.size j _ _ _ (HD2.out.get List.mem_cons_self)
  refine hK.out _ _ (fun w' => ∀ j, w'.cell? ⟨w.heap.size, j, none⟩ = (#[.int .u8 what, .int .u16 n, .slice Av b.length cv] : Array Value)[j]?) (fun _ h => h) hcb2 ?_
  clear hK K hcb2 HDD hE hK2
  show wpList _ _ _ _ _ _
  obtain ⟨M, hM, hMd, hst⟩ := HD2.out.model
  have HMO := Lib.hid (mopen_any hMd d6)
  have HST := Lib.hid hst
  clear hM hMd hst
  go_wp2_with fail
  refine HMO.out.mono ?_
  rintro e w3 ⟨rfl, hmr⟩
  have HR := Lib.hid (HST.out _ _ hmr)
  clear hmr HMO HST
  go_wp2
  go_ret
  obtain ⟨v3, rb3, hd3, hn3⟩ := HR.out
  exact ⟨rfl, L', v3, rb3, HE.out, hd3.fewer sub_do, hn3.cons⟩
set_option maxHeartbeats 4000000 in
theorem does_open1 (what n : Nat) (Av : Option Addr) (cv : Nat) (b : J.B) (w : World) (hin : DoIn w0 p pf nm u q fs m L v rb n Av cv b w) (hw : (what : Int).tmod 12 = 1) :
    Calls Tryz.prog 17 #[.pointer (some ⟨pf, 0, none⟩), .pointer (some ⟨q, 0, none⟩), .agg #[.int .u8 what, .int .u16 n, .slice Av b.length cv]] w (DoQ w0 p pf nm u q fs rb (m.open (n % 6)).1 L) := by
  have r6 : (n : Int).tmod 6 = ((n % 6 : Nat) : Int) := rfl
  have hd6 : n % 6 < 6 := Nat.mod_lt _ (by decide)
  generalize n % 6 = d6 at hd6 r6 ⊢
  have hbox := heap_alloc_new w (actO what n Av b.length cv)
  have hcb := fun j => cell_of_row _ w.heap.size j _ _ _ hbox
  have HD0 := Lib.hid (hin.h.more (actO what n Av b.length cv))
  have hby := hin.by_.below ((Below.refl _ w).alloc (Nat.le_refl _) (actO what n Av b.length cv))
  have r1 : (n : Int).tmod 12 = ((n % 12 : Nat) : Int) := rfl
  have hd : n % 12 < 12 := Nat.mod_lt _ (by decide)
  have hn := hin.n
  have HIN := Lib.hid hin
  obtain ⟨kk, hkk⟩ : ∃ kk : Int, kk = ((n % 12 : Nat) : Int) - 1 := ⟨_, rfl⟩
  have HKK := Lib.hid hkk
  have hk1 : -1 ≤ kk ∧ kk ≤ 10 := by omega
  clear hin hbox hkk
  generalize n % 12 = d at hd r1 HKK
  go_enter Tryz.func17, Tryz.ntmps17
  go_upto_region 2 with fail
  go_wp2_with (refine wpList_str_by rfl _ rfl Av b.length cv rfl hby ?_)
  refine wp_region_pm 11 (.rd 0 (.rd 1 (.rd 2 (.rd 3 (.rd 4 (.rd 6 (.rd 7 (.rd 8 (.rd 9 (.rd 10 (.wr 5 .fin))))))))))) (fun w' => ∀ j, w'.cell? ⟨w.heap.size, j, none⟩ = (#[.int .u8 what, .int .u16 n, .slice Av b.length cv] : Array Value)[j]?) (by kernel_rfl) (by kernel_rfl) (fun c a d v w h => by cases d <;> exact h) (fun j => hcb j) ?_
  have HDD := Lib.hid (HD0.out.below ((Below.refl _ _).drew))
  clear hcb hby
  generalize (w.alloc (actO what n Av b.length cv)).drew = w1 at HDD ⊢
  repeat
    refine wpPm_read (v := ?_) (by rfl) (by rfl) (fun w' hS => ?_) (fun K hK => ?_)
    rotate_left
    · have hcx := hS
      have hwr : IntKind.u8.wrap (d6 : Int) = d6 := by rw [IntKind.wrap_u8]; omega
      clear hS
      go_simp
      try with_reducible rfl
    go_simp
    refine hK _ ?_
    clear hK K
  refine wpPm_write (by rfl) (fun K hK => ?_)
  go_simp
  refine (k_open HDD.out.1 HIN.out.u d6).mono ?_
  rintro e w2 ⟨rfl, L', hE, hK2⟩
  have HE := Lib.hid hE
  have HD2 := Lib.hid (show D3 w0 p pf nm (u + 1) q _ (m.open d6).1 m L' v rb w2 from ⟨hK2, HDD.out.2⟩)
  have hcb2 := fun j => cell_of_row w2 w.heap.size j _ _ _ (HD2.out.get List.mem_cons_self)
  refine hK.out _ _ (fun w' => ∀ j, w'.cell? ⟨w.heap.size, j, none⟩ = (#[.int .u8 what, .int .u16 n, .slice Av b.length cv] : Array Value)[j]?) (fun _ h => h) hcb2 ?_
  clear hK K hcb2 HDD hE hK2
  show wpList _ _ _ _ _ _
  obtain ⟨M, hM, hMd, hst⟩ := HD2.out.model
  have HMO := Lib.hid (mopen_any hMd d6)
  have HST := Lib.hid hst
  clear hM hMd hst
  go_wp2_with fail
  refine HMO.out.mono ?_
  rintro e w3 ⟨rfl, hmr⟩
  have HR := Lib.hid (HST.out _ _ hmr)
  clear hmr HMO HST
  go_wp2
  go_ret
  obtain ⟨v3, rb3, hd3, hn3⟩ := HR.out
  exact ⟨rfl, L', v3, rb3, HE.out, hd3.fewer sub_do, hn3.cons⟩
end
end Go.Proofs.YtjbepnkchoaipaaGreat
/- Law 31: does, some of its acts. Printed by gen_does.py. -/
namespace Go.Proofs.YtjbepnkchoaipaaGreat
open Go.RowKit Go.Lib Go.Maps Go.WideMaps Go.Sort
set_option maxRecDepth 100000
section
variable {w0 : World} {p pf q : Nat} {nm : J.B} {u : Nat} {fs rb : List (Nat × Obj)} {m : R.M} {L : List (List (J.B × J.B))} {v : Value}
set_option maxHeartbeats 4000000 in
theorem does_next3 (what n : Nat) (Av : Option Addr) (cv : Nat) (b : J.B) (w : World) (hin : DoIn w0 p pf nm u q fs m L v rb n Av cv b w) (hw : (what : Int).tmod 12 = 3) :
    Calls Tryz.prog 17 #[.pointer (some ⟨pf, 0, none⟩), .pointer (some ⟨q, 0, none⟩), .agg #[.int .u8 what, .int .u16 n, .slice Av b.length cv]] w (DoQ w0 p pf nm u q fs rb m.nextR.1 L) := by
  have hbox := heap_alloc_new w (actO what n Av b.length cv)
  have hcb := fun j => cell_of_row _ w.heap.size j _ _ _ hbox
  have HD0 := Lib.hid (hin.h.more (actO what n Av b.length cv))
  have hby := hin.by_.below ((Below.refl _ w).alloc (Nat.le_refl _) (actO what n Av b.length cv))
  have r1 : (n : Int).tmod 12 = ((n % 12 : Nat) : Int) := rfl
  have hd : n % 12 < 12 := Nat.mod_lt _ (by decide)
  have hn := hin.n
  have HIN := Lib.hid hin
  obtain ⟨kk, hkk⟩ : ∃ kk : Int, kk = ((n % 12 : Nat) : Int) - 1 := ⟨_, rfl⟩
  have HKK := Lib.hid hkk
  have hk1 : -1 ≤ kk ∧ kk ≤ 10 := by omega
  clear hin hbox hkk
  generalize n % 12 = d at hd r1 HKK
  go_enter Tryz.func17, Tryz.ntmps17
  go_wp2_with (refine wpList_str_by rfl _ rfl Av b.length cv rfl hby ?_)
  refine (k_next HD0.out.1 HIN.out.u).mono ?_
  rintro e w2 ⟨vx, rfl, hsx, hg2, hr2⟩
  obtain ⟨L', hE, hK2⟩ := k_next_at HD0.out.1 hg2 hr2
  have HE := Lib.hid hE
  have HSX := Lib.hid hsx
  have HD2 := Lib.hid (show D3 w0 p pf nm (u + 1) q _ m.nextR.1 m L' v rb w2 from ⟨hK2, HD0.out.2⟩)
  clear hE hsx hg2 hr2 hK2 HD0 hcb hby
  obtain ⟨M, hM, hMd, hst⟩ := HD2.out.model
  have HMO := Lib.hid (mnext_any hMd (HIN.out.h.len HIN.out.u) HIN.out.h.mok.rows)
  have HST := Lib.hid hst
  clear hM hMd hst
  go_wp2_with fail
  refine HMO.out.mono ?_
  rintro e w3 ⟨vy, rfl, hsy, hmr⟩
  have HR := Lib.hid (HST.out _ _ hmr)
  obtain ⟨Ax, rfl, hbx⟩ := slc_mr HSX.out hmr.1 HD2.out.noBy
  obtain ⟨Ay, cy, rfl, _, hby2⟩ := hsy.by
  clear hmr HMO HST HSX HD2 hsy
  generalize (Option.map (fun x => x.2) m.nextR.2.1).getD [] = bs at hbx hby2 ⊢
  have hcx := run_str_by (c := bs.length) hbx
  have hcy := run_str_by (c := cy) hby2
  clear hbx hby2
  go_wp2
  go_ret
  obtain ⟨v3, rb3, hd3, hn3⟩ := HR.out
  exact ⟨rfl, L', v3, rb3, HE.out, hd3.fewer sub_do, hn3.cons⟩
set_option maxHeartbeats 4000000 in
theorem does_next4 (what n : Nat) (Av : Option Addr) (cv : Nat) (b : J.B) (w : World) (hin : DoIn w0 p pf nm u q fs m L v rb n Av cv b w) (hw : (what : Int).tmod 12 = 4) :
    Calls Tryz.prog 17 #[.pointer (some ⟨pf, 0, none⟩), .pointer (some ⟨q, 0, none⟩), .agg #[.int .u8 what, .int .u16 n, .slice Av b.length cv]] w (DoQ w0 p pf nm u q fs rb m.nextR.1 L) := by
  have hbox := heap_alloc_new w (actO what n Av b.length cv)
  have hcb := fun j => cell_of_row _ w.heap.size j _ _ _ hbox
  have HD0 := Lib.hid (hin.h.more (actO what n Av b.length cv))
  have hby := hin.by_.below ((Below.refl _ w).alloc (Nat.le_refl _) (actO what n Av b.length cv))
  have r1 : (n : Int).tmod 12 = ((n % 12 : Nat) : Int) := rfl
  have hd : n % 12 < 12 := Nat.mod_lt _ (by decide)
  have hn := hin.n
  have HIN := Lib.hid hin
  obtain ⟨kk, hkk⟩ : ∃ kk : Int, kk = ((n % 12 : Nat) : Int) - 1 := ⟨_, rfl⟩
  have HKK := Lib.hid hkk
  have hk1 : -1 ≤ kk ∧ kk ≤ 10 := by omega
  clear hin hbox hkk
  generalize n % 12 = d at hd r1 HKK
  go_enter Tryz.func17, Tryz.ntmps17
  go_wp2_with (refine wpList_str_by rfl _ rfl Av b.length cv rfl hby ?_)
  refine (k_next HD0.out.1 HIN.out.u).mono ?_
  rintro e w2 ⟨vx, rfl, hsx, hg2, hr2⟩
  obtain ⟨L', hE, hK2⟩ := k_next_at HD0.out.1 hg2 hr2
  have HE := Lib.hid hE
  have HSX := Lib.hid hsx
  have HD2 := Lib.hid (show D3 w0 p pf nm (u + 1) q _ m.nextR.1 m L' v rb w2 from ⟨hK2, HD0.out.2⟩)
  clear hE hsx hg2 hr2 hK2 HD0 hcb hby
  obtain ⟨M, hM, hMd, hst⟩ := HD2.out.model
  have HMO := Lib.hid (mnext_any hMd (HIN.out.h.len HIN.out.u) HIN.out.h.mok.rows)
  have HST := Lib.hid hst
  clear hM hMd hst
  go_wp2_with fail
  refine HMO.out.mono ?_
  rintro e w3 ⟨vy, rfl, hsy, hmr⟩
  have HR := Lib.hid (HST.out _ _ hmr)
  obtain ⟨Ax, rfl, hbx⟩ := slc_mr HSX.out hmr.1 HD2.out.noBy
  obtain ⟨Ay, cy, rfl, _, hby2⟩ := hsy.by
  clear hmr HMO HST HSX HD2 hsy
  generalize (Option.map (fun x => x.2) m.nextR.2.1).getD [] = bs at hbx hby2 ⊢
  have hcx := run_str_by (c := bs.length) hbx
  have hcy := run_str_by (c := cy) hby2
  clear hbx hby2
  go_wp2
  go_ret
  obtain ⟨v3, rb3, hd3, hn3⟩ := HR.out
  exact ⟨rfl, L', v3, rb3, HE.out, hd3.fewer sub_do, hn3.cons⟩
set_option maxHeartbeats 4000000 in
theorem does_next5 (what n : Nat) (Av : Option Addr) (cv : Nat) (b : J.B) (w : World) (hin : DoIn w0 p pf nm u q fs m L v rb n Av cv b w) (hw : (what : Int).tmod 12 = 5) :
    Calls Tryz.prog 17 #[.pointer (some ⟨pf, 0, none⟩), .pointer (some ⟨q, 0, none⟩), .agg #[.int .u8 what, .int .u16 n, .slice Av b.length cv]] w (DoQ w0 p pf nm u q fs rb m.nextR.1 L) := by
  have hbox := heap_alloc_new w (actO what n Av b.length cv)
  have hcb := fun j => cell_of_row _ w.heap.size j _ _ _ hbox
  have HD0 := Lib.hid (hin.h.more (actO what n Av b.length cv))
  have hby := hin.by_.below ((Below.refl _ w).alloc (Nat.le_refl _) (actO what n Av b.length cv))
  have r1 : (n : Int).tmod 12 = ((n % 12 : Nat) : Int) := rfl
  have hd : n % 12 < 12 := Nat.mod_lt _ (by decide)
  have hn := hin.n
  have HIN := Lib.hid hin
  obtain ⟨kk, hkk⟩ : ∃ kk : Int, kk = ((n % 12 : Nat) : Int) - 1 := ⟨_, rfl⟩
  have HKK := Lib.hid hkk
  have hk1 : -1 ≤ kk ∧ kk ≤ 10 := by omega
  clear hin hbox hkk
  generalize n % 12 = d at hd r1 HKK
  go_enter Tryz.func17, Tryz.ntmps17
  go_wp2_with (refine wpList_str_by rfl _ rfl Av b.length cv rfl hby ?_)
  refine (k_next HD0.out.1 HIN.out.u).mono ?_
  rintro e w2 ⟨vx, rfl, hsx, hg2, hr2⟩
  obtain ⟨L', hE, hK2⟩ := k_next_at HD0.out.1 hg2 hr2
  have HE := Lib.hid hE
  have HSX := Lib.hid hsx
  have HD2 := Lib.hid (show D3 w0 p pf nm (u + 1) q _ m.nextR.1 m L' v rb w2 from ⟨hK2, HD0.out.2⟩)
  clear hE hsx hg2 hr2 hK2 HD0 hcb hby
  obtain ⟨M, hM, hMd, hst⟩ := HD2.out.model
  have HMO := Lib.hid (mnext_any hMd (HIN.out.h.len HIN.out.u) HIN.out.h.mok.rows)
  have HST := Lib.hid hst
  clear hM hMd hst
  go_wp2_with fail
  refine HMO.out.mono ?_
  rintro e w3 ⟨vy, rfl, hsy, hmr⟩
  have HR := Lib.hid (HST.out _ _ hmr)
  obtain ⟨Ax, rfl, hbx⟩ := slc_mr HSX.out hmr.1 HD2.out.noBy
  obtain ⟨Ay, cy, rfl, _, hby2⟩ := hsy.by
  clear hmr HMO HST HSX HD2 hsy
  generalize (Option.map (fun x => x.2) m.nextR.2.1).getD [] = bs at hbx hby2 ⊢
  have hcx := run_str_by (c := bs.length) hbx
  have hcy := run_str_by (c := cy) hby2
  clear hbx hby2
  go_wp2
  go_ret
  obtain ⟨v3, rb3, hd3, hn3⟩ := HR.out
  exact ⟨rfl, L', v3, rb3, HE.out, hd3.fewer sub_do, hn3.cons⟩
set_option maxHeartbeats 4000000 in
theorem does_read (what n : Nat) (Av : Option Addr) (cv : Nat) (b : J.B) (w : World) (hin : DoIn w0 p pf nm u q fs m L v rb n Av cv b w) (hw : (what : Int).tmod 12 = 6) :
    Calls Tryz.prog 17 #[.pointer (some ⟨pf, 0, none⟩), .pointer (some ⟨q, 0, none⟩), .agg #[.int .u8 what, .int .u16 n, .slice Av b.length cv]] w (DoQ w0 p pf nm u q fs rb (m.readR (((n % 12 : Nat) : Int) - 1)).1 L) := by
  have hbox := heap_alloc_new w (actO what n Av b.length cv)
  have hcb := fun j => cell_of_row _ w.heap.size j _ _ _ hbox
  have HD0 := Lib.hid (hin.h.more (actO what n Av b.length cv))
  have hby := hin.by_.below ((Below.refl _ w).alloc (Nat.le_refl _) (actO what n Av b.length cv))
  have r1 : (n : Int).tmod 12 = ((n % 12 : Nat) : Int) := rfl
  have hd : n % 12 < 12 := Nat.mod_lt _ (by decide)
  have hn := hin.n
  have HIN := Lib.hid hin
  obtain ⟨kk, hkk⟩ : ∃ kk : Int, kk = ((n % 12 : Nat) : Int) - 1 := ⟨_, rfl⟩
  have HKK := Lib.hid hkk
  have hk1 : -1 ≤ kk ∧ kk ≤ 10 := by omega
  rw [← hkk]
  clear hin hbox hkk
  generalize n % 12 = d at hd r1 HKK
  go_enter Tryz.func17, Tryz.ntmps17
  go_wp2_with (refine wpList_str_by rfl _ rfl Av b.length cv rfl hby ?_)
  rw [← HKK.out]
  refine (k_read HD0.out.1 kk (by omega)).mono ?_
  rintro e w2 ⟨vx, rfl, hsx, L', hE, hK2⟩
  have HE := Lib.hid hE
  have HSX := Lib.hid hsx
  have HD2 := Lib.hid (show D3 w0 p pf nm (u + 1) q _ (m.readR kk).1 m L' v rb w2 from ⟨hK2, HD0.out.2⟩)
  clear hE hsx hK2 HD0 hcb hby
  obtain ⟨M, hM, hMd, hst⟩ := HD2.out.model
  have HMO := Lib.hid (mread_any hMd kk (HIN.out.h.len HIN.out.u) HIN.out.h.mok.rows)
  have HST := Lib.hid hst
  clear hM hMd hst
  go_wp2_with fail
  refine HMO.out.mono ?_
  rintro e w3 ⟨vy, z, rfl, hsy, hmr⟩
  have HR := Lib.hid (HST.out _ _ hmr)
  obtain ⟨Ax, rfl, hbx⟩ := slc_mr HSX.out hmr.1 HD2.out.noBy
  obtain ⟨Ay, cy, rfl, _, hby2⟩ := hsy.by
  clear hmr HMO HST HSX HD2 hsy
  generalize (m.readR kk).2.1.getD [] = bs at hbx hby2 ⊢
  have hcx := run_str_by (c := bs.length) hbx
  have hcy := run_str_by (c := cy) hby2
  clear hbx hby2
  go_wp2
  go_ret
  obtain ⟨v3, rb3, hd3, hn3⟩ := HR.out
  exact ⟨rfl, L', v3, rb3, HE.out, hd3.fewer sub_do, hn3.cons⟩
end
end Go.Proofs.YtjbepnkchoaipaaGreat
/- Law 31: does, some of its acts. Printed by gen_does.py. -/
namespace Go.Proofs.YtjbepnkchoaipaaGreat
open Go.RowKit Go.Lib Go.Maps Go.WideMaps Go.Sort
set_option maxRecDepth 100000
section
variable {w0 : World} {p pf q : Nat} {nm : J.B} {u : Nat} {fs rb : List (Nat × Obj)} {m : R.M} {L : List (List (J.B × J.B))} {v : Value}
set_option maxHeartbeats 4000000 in
theorem does_append (what n : Nat) (Av : Option Addr) (cv : Nat) (b : J.B) (w : World) (hin : DoIn w0 p pf nm u q fs m L v rb n Av cv b w) (hw : (what : Int).tmod 12 = 7) :
    Calls Tryz.prog 17 #[.pointer (some ⟨pf, 0, none⟩), .pointer (some ⟨q, 0, none⟩), .agg #[.int .u8 what, .int .u16 n, .slice Av b.length cv]] w (DoQ w0 p pf nm u q fs rb (m.append b).1 L) := by
  have hbox := heap_alloc_new w (actO what n Av b.length cv)
  have hcb := fun j => cell_of_row _ w.heap.size j _ _ _ hbox
  have HD0 := Lib.hid (hin.h.more (actO what n Av b.length cv))
  have hby := hin.by_.below ((Below.refl _ w).alloc (Nat.le_refl _) (actO what n Av b.length cv))
  have r1 : (n : Int).tmod 12 = ((n % 12 : Nat) : Int) := rfl
  have hd : n % 12 < 12 := Nat.mod_lt _ (by decide)
  have hn := hin.n
  have HIN := Lib.hid hin
  obtain ⟨kk, hkk⟩ : ∃ kk : Int, kk = ((n % 12 : Nat) : Int) - 1 := ⟨_, rfl⟩
  have HKK := Lib.hid hkk
  have hk1 : -1 ≤ kk ∧ kk ≤ 10 := by omega
  clear hin hbox hkk
  generalize n % 12 = d at hd r1 HKK
  go_enter Tryz.func17, Tryz.ntmps17
  go_wp2_with (refine wpList_str_by rfl _ rfl Av b.length cv rfl hby ?_)
  refine (k_append HD0.out.1 HIN.out.u _ b (HIN.out.src _)).mono ?_
  rintro e w2 ⟨rfl, L', hE, hK2⟩
  have HE := Lib.hid hE
  have HD2 := Lib.hid (show D3 w0 p pf nm (u + 1) q _ (m.append b).1 m L' v rb w2 from ⟨hK2, HD0.out.2⟩)
  clear hE hK2 HD0 hcb hby
  obtain ⟨M, hM, hMd, hst⟩ := HD2.out.model
  have HMO := Lib.hid (mwrite_app hMd hM (HIN.out.h.len HIN.out.u) HIN.out.h.mok.rows b HIN.out.bl)
  have HST := Lib.hid hst
  clear hM hMd hst
  go_wp2_with fail
  refine HMO.out.mono ?_
  rintro e w3 ⟨rfl, hmr⟩
  have HR := Lib.hid (HST.out _ _ hmr)
  clear hmr HMO HST HD2
  go_wp2
  go_ret
  obtain ⟨v3, rb3, hd3, hn3⟩ := HR.out
  exact ⟨rfl, L', v3, rb3, HE.out, hd3.fewer sub_do, hn3.cons⟩
set_option maxHeartbeats 4000000 in
theorem does_write (what n : Nat) (Av : Option Addr) (cv : Nat) (b : J.B) (w : World) (hin : DoIn w0 p pf nm u q fs m L v rb n Av cv b w) (hw : (what : Int).tmod 12 = 8) :
    Calls Tryz.prog 17 #[.pointer (some ⟨pf, 0, none⟩), .pointer (some ⟨q, 0, none⟩), .agg #[.int .u8 what, .int .u16 n, .slice Av b.length cv]] w (DoQ w0 p pf nm u q fs rb (m.write (((n % 12 : Nat) : Int) - 1) b).1 L) := by
  have hbox := heap_alloc_new w (actO what n Av b.length cv)
  have hcb := fun j => cell_of_row _ w.heap.size j _ _ _ hbox
  have HD0 := Lib.hid (hin.h.more (actO what n Av b.length cv))
  have hby := hin.by_.below ((Below.refl _ w).alloc (Nat.le_refl _) (actO what n Av b.length cv))
  have r1 : (n : Int).tmod 12 = ((n % 12 : Nat) : Int) := rfl
  have hd : n % 12 < 12 := Nat.mod_lt _ (by decide)
  have hn := hin.n
  have HIN := Lib.hid hin
  obtain ⟨kk, hkk⟩ : ∃ kk : Int, kk = ((n % 12 : Nat) : Int) - 1 := ⟨_, rfl⟩
  have HKK := Lib.hid hkk
  have hk1 : -1 ≤ kk ∧ kk ≤ 10 := by omega
  rw [← hkk]
  clear hin hbox hkk
  generalize n % 12 = d at hd r1 HKK
  go_enter Tryz.func17, Tryz.ntmps17
  go_wp2_with (refine wpList_str_by rfl _ rfl Av b.length cv rfl hby ?_)
  rw [← HKK.out]
  obtain ⟨M, hM, hMd, hst⟩ := HD0.out.model
  refine (mwrite_any hMd hM (HIN.out.h.len HIN.out.u) HIN.out.h.mok.rows kk (by omega) b HIN.out.bl).mono ?_
  rintro e w2 ⟨⟨z, rfl⟩, hmr⟩
  obtain ⟨v2, rb2, hd2, hn2⟩ := hst _ _ hmr
  have HNI := Lib.hid hn2
  clear hn2
  have HD2 := Lib.hid hd2
  have hcb2 := fun j => cell_of_row w2 w.heap.size j _ _ _ (hd2.get (List.mem_append_right _ List.mem_cons_self))
  have HKW := Lib.hid (k_write hd2.1 HIN.out.u kk _ b (HIN.out.src _))
  clear hM hMd hst hmr hd2 hcb hby HD0
  go_wp2_with fail
  refine HKW.out.mono ?_
  rintro e w3 ⟨rfl, L', hE, hK3⟩
  have HE := Lib.hid hE
  have HR := Lib.hid (show D3 w0 p pf nm (u + 1) q _ (m.write kk b).1 (m.write kk b).1 L' v2 rb2 w3 from ⟨hK3, HD2.out.2⟩)
  clear hE hK3 hcb2 HKW HD2
  go_wp2
  go_ret
  exact ⟨rfl, L', _, _, HE.out, HR.out.fewer sub_do, HNI.out.cons⟩
set_option maxHeartbeats 4000000 in
theorem does_rewrite (what n : Nat) (Av : Option Addr) (cv : Nat) (b : J.B) (w : World) (hin : DoIn w0 p pf nm u q fs m L v rb n Av cv b w) (hw : (what : Int).tmod 12 = 9) :
    Calls Tryz.prog 17 #[.pointer (some ⟨pf, 0, none⟩), .pointer (some ⟨q, 0, none⟩), .agg #[.int .u8 what, .int .u16 n, .slice Av b.length cv]] w (DoQ w0 p pf nm u q fs rb (m.rewrite ((((n % 12 : Nat) : Int) - 1) * ((n / 12 % 2 : Nat) : Int)) b).1 L) := by
  obtain ⟨dd, hdd⟩ : ∃ dd : Int, dd = ((n % 12 : Nat) : Int) - 1 := ⟨_, rfl⟩
  have hd1 : -1 ≤ dd ∧ dd ≤ 10 := by have : n % 12 < 12 := Nat.mod_lt _ (by decide); omega
  have q12 : (n : Int).tdiv 12 = ((n / 12 : Nat) : Int) := rfl
  have hq12 : n / 12 < 65536 := by have := hin.n; omega
  generalize n / 12 = e12 at q12 hq12 ⊢
  have r2 : (e12 : Int).tmod 2 = ((e12 % 2 : Nat) : Int) := rfl
  have hj : e12 % 2 < 2 := Nat.mod_lt _ (by decide)
  generalize e12 % 2 = j at r2 hj ⊢
  obtain ⟨k2, hk2⟩ : ∃ k2 : Int, k2 = (((n % 12 : Nat) : Int) - 1) * (j : Int) := ⟨_, rfl⟩
  rw [← hk2]
  have hk3 : -1 ≤ k2 ∧ k2 ≤ 10 := by
    rw [hk2, ← hdd]
    rcases (by omega : j = 0 ∨ j = 1) with rfl | rfl
    · simp
    · simpa using hd1
  have hmul := hk2.symm
  clear hk2 hdd hd1
  have hbox := heap_alloc_new w (actO what n Av b.length cv)
  have hcb := fun j => cell_of_row _ w.heap.size j _ _ _ hbox
  have HD0 := Lib.hid (hin.h.more (actO what n Av b.length cv))
  have hby := hin.by_.below ((Below.refl _ w).alloc (Nat.le_refl _) (actO what n Av b.length cv))
  have r1 : (n : Int).tmod 12 = ((n % 12 : Nat) : Int) := rfl
  have hd : n % 12 < 12 := Nat.mod_lt _ (by decide)
  have hn := hin.n
  have HIN := Lib.hid hin
  obtain ⟨kk, hkk⟩ : ∃ kk : Int, kk = ((n % 12 : Nat) : Int) - 1 := ⟨_, rfl⟩
  have HKK := Lib.hid hkk
  have hk1 : -1 ≤ kk ∧ kk ≤ 10 := by omega
  clear hin hbox hkk
  generalize n % 12 = d at hd r1 HKK hmul
  go_enter Tryz.func17, Tryz.ntmps17
  go_wp2_with (refine wpList_str_by rfl _ rfl Av b.length cv rfl hby ?_)
  refine (k_rewrite HD0.out.1 HIN.out.u k2 _ b (HIN.out.src _)).mono ?_
  rintro e w2 ⟨rfl, L', hE, hK2⟩
  have HE := Lib.hid hE
  have HD2 := Lib.hid (show D3 w0 p pf nm (u + 1) q _ (m.rewrite k2 b).1 m L' v rb w2 from ⟨hK2, HD0.out.2⟩)
  clear hE hK2 HD0 hcb hby
  obtain ⟨M, hM, hMd, hst⟩ := HD2.out.model
  have HMO := Lib.hid (mrewrite_any hMd hM (HIN.out.h.len HIN.out.u) HIN.out.h.mok.rows HIN.out.h.mok.last k2 b HIN.out.bl)
  have HST := Lib.hid hst
  clear hM hMd hst
  go_wp2_with fail
  refine HMO.out.mono ?_
  rintro e w3 ⟨rfl, hmr⟩
  have HR := Lib.hid (HST.out _ _ hmr)
  clear hmr HMO HST HD2
  go_wp2
  go_ret
  obtain ⟨v3, rb3, hd3, hn3⟩ := HR.out
  exact ⟨rfl, L', v3, rb3, HE.out, hd3.fewer sub_do, hn3.cons⟩
set_option maxHeartbeats 4000000 in
theorem does_delete (what n : Nat) (Av : Option Addr) (cv : Nat) (b : J.B) (w : World) (hin : DoIn w0 p pf nm u q fs m L v rb n Av cv b w) (hw : (what : Int).tmod 12 = 10) :
    Calls Tryz.prog 17 #[.pointer (some ⟨pf, 0, none⟩), .pointer (some ⟨q, 0, none⟩), .agg #[.int .u8 what, .int .u16 n, .slice Av b.length cv]] w (DoQ w0 p pf nm u q fs rb (m.delete ((((n % 12 : Nat) : Int) - 1) * ((n / 12 % 2 : Nat) : Int))).1 L) := by
  obtain ⟨dd, hdd⟩ : ∃ dd : Int, dd = ((n % 12 : Nat) : Int) - 1 := ⟨_, rfl⟩
  have hd1 : -1 ≤ dd ∧ dd ≤ 10 := by have : n % 12 < 12 := Nat.mod_lt _ (by decide); omega
  have q12 : (n : Int).tdiv 12 = ((n / 12 : Nat) : Int) := rfl
  have hq12 : n / 12 < 65536 := by have := hin.n; omega
  generalize n / 12 = e12 at q12 hq12 ⊢
  have r2 : (e12 : Int).tmod 2 = ((e12 % 2 : Nat) : Int) := rfl
  have hj : e12 % 2 < 2 := Nat.mod_lt _ (by decide)
  generalize e12 % 2 = j at r2 hj ⊢
  obtain ⟨k2, hk2⟩ : ∃ k2 : Int, k2 = (((n % 12 : Nat) : Int) - 1) * (j : Int) := ⟨_, rfl⟩
  rw [← hk2]
  have hk3 : -1 ≤ k2 ∧ k2 ≤ 10 := by
    rw [hk2, ← hdd]
    rcases (by omega : j = 0 ∨ j = 1) with rfl | rfl
    · simp
    · simpa using hd1
  have hmul := hk2.symm
  clear hk2 hdd hd1
  have hbox := heap_alloc_new w (actO what n Av b.length cv)
  have hcb := fun j => cell_of_row _ w.heap.size j _ _ _ hbox
  have HD0 := Lib.hid (hin.h.more (actO what n Av b.length cv))
  have hby := hin.by_.below ((Below.refl _ w).alloc (Nat.le_refl _) (actO what n Av b.length cv))
  have r1 : (n : Int).tmod 12 = ((n % 12 : Nat) : Int) := rfl
  have hd : n % 12 < 12 := Nat.mod_lt _ (by decide)
  have hn := hin.n
  have HIN := Lib.hid hin
  obtain ⟨kk, hkk⟩ : ∃ kk : Int, kk = ((n % 12 : Nat) : Int) - 1 := ⟨_, rfl⟩
  have HKK := Lib.hid hkk
  have hk1 : -1 ≤ kk ∧ kk ≤ 10 := by omega
  clear hin hbox hkk
  generalize n % 12 = d at hd r1 HKK hmul
  go_enter Tryz.func17, Tryz.ntmps17
  go_wp2_with (refine wpList_str_by rfl _ rfl Av b.length cv rfl hby ?_)
  refine (k_delete HD0.out.1 HIN.out.u k2).mono ?_
  rintro e w2 ⟨rfl, L', hE, hK2⟩
  have HE := Lib.hid hE
  have HD2 := Lib.hid (show D3 w0 p pf nm (u + 1) q _ (m.delete k2).1 m L' v rb w2 from ⟨hK2, HD0.out.2⟩)
  clear hE hK2 HD0 hcb hby
  obtain ⟨M, hM, hMd, hst⟩ := HD2.out.model
  have HMO := Lib.hid (mdelete_any hMd hM (HIN.out.h.len HIN.out.u) HIN.out.h.mok.rows k2)
  have HST := Lib.hid hst
  clear hM hMd hst
  go_wp2_with fail
  refine HMO.out.mono ?_
  rintro e w3 ⟨rfl, hmr⟩
  have HR := Lib.hid (HST.out _ _ hmr)
  clear hmr HMO HST HD2
  go_wp2
  go_ret
  obtain ⟨v3, rb3, hd3, hn3⟩ := HR.out
  exact ⟨rfl, L', v3, rb3, HE.out, hd3.fewer sub_do, hn3.cons⟩
set_option maxHeartbeats 4000000 in
theorem does_start (what n : Nat) (Av : Option Addr) (cv : Nat) (b : J.B) (w : World) (hin : DoIn w0 p pf nm u q fs m L v rb n Av cv b w) (hw : (what : Int).tmod 12 = 11) :
    Calls Tryz.prog 17 #[.pointer (some ⟨pf, 0, none⟩), .pointer (some ⟨q, 0, none⟩), .agg #[.int .u8 what, .int .u16 n, .slice Av b.length cv]] w (DoQ w0 p pf nm u q fs rb (m.start (n / 12 % 6) (((n % 12 : Nat) : Int) - 1)).1 L) := by
  have q12 : (n : Int).tdiv 12 = ((n / 12 : Nat) : Int) := rfl
  have hq12 : n / 12 < 65536 := by have := hin.n; omega
  generalize n / 12 = e12 at q12 hq12 ⊢
  have r2 : (e12 : Int).tmod 6 = ((e12 % 6 : Nat) : Int) := rfl
  have hj : e12 % 6 < 6 := Nat.mod_lt _ (by decide)
  generalize e12 % 6 = j at r2 hj ⊢
  have hbox := heap_alloc_new w (actO what n Av b.length cv)
  have hcb := fun j => cell_of_row _ w.heap.size j _ _ _ hbox
  have HD0 := Lib.hid (hin.h.more (actO what n Av b.length cv))
  have hby := hin.by_.below ((Below.refl _ w).alloc (Nat.le_refl _) (actO what n Av b.length cv))
  have r1 : (n : Int).tmod 12 = ((n % 12 : Nat) : Int) := rfl
  have hd : n % 12 < 12 := Nat.mod_lt _ (by decide)
  have hn := hin.n
  have HIN := Lib.hid hin
  obtain ⟨kk, hkk⟩ : ∃ kk : Int, kk = ((n % 12 : Nat) : Int) - 1 := ⟨_, rfl⟩
  have HKK := Lib.hid hkk
  have hk1 : -1 ≤ kk ∧ kk ≤ 10 := by omega
  rw [← hkk]
  clear hin hbox hkk
  generalize n % 12 = d at hd r1 HKK
  go_enter Tryz.func17, Tryz.ntmps17
  go_wp2_with (refine wpList_str_by rfl _ rfl Av b.length cv rfl hby ?_)
  rw [← HKK.out]
  refine (k_start HD0.out.1 HIN.out.u j kk (by omega)).mono ?_
  rintro e w2 ⟨rfl, L', hE, hK2⟩
  have HE := Lib.hid hE
  have HD2 := Lib.hid (show D3 w0 p pf nm (u + 1) q _ (m.start j kk).1 m L' v rb w2 from ⟨hK2, HD0.out.2⟩)
  clear hE hK2 HD0 hcb hby
  obtain ⟨M, hM, hMd, hst⟩ := HD2.out.model
  have HMO := Lib.hid (mstart_any hMd HIN.out.h.mok.rows (HIN.out.h.len HIN.out.u) j kk (by omega))
  have HST := Lib.hid hst
  clear hM hMd hst
  go_wp2_with fail
  refine HMO.out.mono ?_
  rintro e w3 ⟨rfl, hmr⟩
  have HR := Lib.hid (HST.out _ _ hmr)
  clear hmr HMO HST HD2
  go_wp2
  go_ret
  obtain ⟨v3, rb3, hd3, hn3⟩ := HR.out
  exact ⟨rfl, L', v3, rb3, HE.out, hd3.fewer sub_do, hn3.cons⟩
end
end Go.Proofs.YtjbepnkchoaipaaGreat
/- Law 31: does, some of its acts. Printed by gen_does.py. -/
namespace Go.Proofs.YtjbepnkchoaipaaGreat
open Go.RowKit Go.Lib Go.Maps Go.WideMaps Go.Sort
set_option maxRecDepth 100000
section
variable {w0 : World} {p pf q : Nat} {nm : J.B} {u : Nat} {fs rb : List (Nat × Obj)} {m : R.M} {L : List (List (J.B × J.B))} {v : Value}
set_option maxHeartbeats 4000000 in
theorem does_close (what n : Nat) (Av : Option Addr) (cv : Nat) (b : J.B) (w : World) (hin : DoIn w0 p pf nm u q fs m L v rb n Av cv b w) (hw : (what : Int).tmod 12 = 2) :
    Calls Tryz.prog 17 #[.pointer (some ⟨pf, 0, none⟩), .pointer (some ⟨q, 0, none⟩), .agg #[.int .u8 what, .int .u16 n, .slice Av b.length cv]] w (DoQ w0 p pf nm u q fs rb m.close.1 L) := by
  have hbox := heap_alloc_new w (actO what n Av b.length cv)
  have hcb := fun j => cell_of_row _ w.heap.size j _ _ _ hbox
  have HD0 := Lib.hid (hin.h.more (actO what n Av b.length cv))
  have hby := hin.by_.below ((Below.refl _ w).alloc (Nat.le_refl _) (actO what n Av b.length cv))
  have r1 : (n : Int).tmod 12 = ((n % 12 : Nat) : Int) := rfl
  have hd : n % 12 < 12 := Nat.mod_lt _ (by decide)
  have hn := hin.n
  have HIN := Lib.hid hin
  obtain ⟨kk, hkk⟩ : ∃ kk : Int, kk = ((n % 12 : Nat) : Int) - 1 := ⟨_, rfl⟩
  have HKK := Lib.hid hkk
  have hk1 : -1 ≤ kk ∧ kk ≤ 10 := by omega
  clear hin hbox hkk
  generalize n % 12 = d at hd r1 HKK
  go_enter Tryz.func17, Tryz.ntmps17
  go_upto_region 2 with fail
  go_upto_region 8 with (refine wpList_str_by rfl _ rfl Av b.length cv rfl hby ?_)
  have HD2 := HD0
  clear hcb hby HD0
  generalize w.alloc (actO what n Av b.length cv) = w1 at HD2 ⊢
  obtain ⟨M, hM, hMd, hst⟩ := HD2.out.model
  have hrow := HD2.out.row
  obtain ⟨v0, hr0, hv0⟩ := hMd
  have e0 := hrow.symm.trans hr0
  injection e0 with e0
  injection e0 with e0
  have hvv : v = v0 := by simpa using e0
  subst hvv
  have hmr : MR w1 q M { m with mode := 0 } (w1.setCell ⟨q, 4, none⟩ (.int .u8 0)) := ⟨grown_set (World.grownBy.refl w1 (some q)) 4 _, v, blk_set hrow 4 _, hv0.grown (mod_cell0 hrow) (grown_set (World.grownBy.refl w1 (some q)) 4 _)⟩
  have hcm : ({ m with mode := 0 } : R.M) = m.close.1 := by
    unfold R.M.close
    split
    · rename_i h; cases m; simp only at h; subst h; rfl
    · rfl
  obtain ⟨v1, rb1, hd1, hn1⟩ := hst _ _ hmr
  have HNI := Lib.hid hn1
  clear hn1
  rw [hcm] at hd1
  have HD1 := Lib.hid hd1
  have HKC := Lib.hid (k_close hd1.1)
  have hcq := fun j => cell_of_row w1 q j _ _ _ hrow
  have hzq := frozen_row hrow
  clear hM hst hrow hr0 hv0 e0 hmr hcm hd1 HD2
  by_cases h0 : m.mode = 0
  · have hcl : m.close.2 = [52, 50] := by unfold R.M.close; rw [if_pos h0]
    rw [hcl] at HKC
    rw [h0] at hcq
    clear hcl
    go_wp2_with fail
    refine HKC.out.mono ?_
    rintro e w2 ⟨rfl, L', hE, hK2⟩
    have HE := Lib.hid hE
    have HR := Lib.hid (show D3 w0 p pf nm (u + 1) q _ m.close.1 m.close.1 L' v1 rb1 w2 from ⟨hK2, HD1.out.2⟩)
    clear hE hK2 HKC
    go_wp2
    go_ret
    exact ⟨rfl, L', _, _, HE.out, HR.out.fewer sub_do, HNI.out.cons⟩
  · have hcl : m.close.2 = [48, 48] := by unfold R.M.close; rw [if_neg h0]
    rw [hcl] at HKC
    have h1 : (0 : Int) < (m.mode : Nat) := by omega
    clear hcl
    go_wp2_with fail
    refine HKC.out.mono ?_
    rintro e w2 ⟨rfl, L', hE, hK2⟩
    have HE := Lib.hid hE
    have HR := Lib.hid (show D3 w0 p pf nm (u + 1) q _ m.close.1 m.close.1 L' v1 rb1 w2 from ⟨hK2, HD1.out.2⟩)
    clear hE hK2 HKC
    go_wp2
    go_ret
    exact ⟨rfl, L', _, _, HE.out, HR.out.fewer sub_do, HNI.out.cons⟩
end
end Go.Proofs.YtjbepnkchoaipaaGreat
/- Law 31: does, whatever the act. -/
namespace Go.Proofs.YtjbepnkchoaipaaGreat
open Go.RowKit Go.Lib Go.Maps Go.WideMaps Go.Sort
set_option maxRecDepth 100000
section
variable {w0 : World} {p pf q : Nat} {nm : J.B} {u : Nat} {fs rb : List (Nat × Obj)} {m : R.M} {L : List (List (J.B × J.B))} {v : Value}
theorem does_any (a : R.Ac) (Av : Option Addr) (cv : Nat) (w : World) (hin : DoIn w0 p pf nm u q fs m L v rb a.n Av cv a.val w) :
    Calls Tryz.prog 17 #[.pointer (some ⟨pf, 0, none⟩), .pointer (some ⟨q, 0, none⟩), .agg #[.int .u8 a.what, .int .u16 a.n, .slice Av a.val.length cv]] w (DoQ w0 p pf nm u q fs rb (m.does a) L) := by
  have hlt : a.what % 12 < 12 := Nat.mod_lt _ (by decide)
  have e : (a.what : Int).tmod 12 = ((a.what % 12 : Nat) : Int) := rfl
  unfold R.M.does R.Ac.k2 R.Ac.k
  generalize a.what % 12 = c at hlt e
  match c, hlt with
  | 0, _ => exact does_open0 _ _ _ _ _ _ hin e
  | 1, _ => exact does_open1 _ _ _ _ _ _ hin e
  | 2, _ => exact does_close _ _ _ _ _ _ hin e
  | 3, _ => exact does_next3 _ _ _ _ _ _ hin e
  | 4, _ => exact does_next4 _ _ _ _ _ _ hin e
  | 5, _ => exact does_next5 _ _ _ _ _ _ hin e
  | 6, _ => exact does_read _ _ _ _ _ _ hin e
  | 7, _ => exact does_append _ _ _ _ _ _ hin e
  | 8, _ => exact does_write _ _ _ _ _ _ hin e
  | 9, _ => exact does_rewrite _ _ _ _ _ _ hin e
  | 10, _ => exact does_delete _ _ _ _ _ _ hin e
  | 11, _ => exact does_start _ _ _ _ _ _ hin e
end
end Go.Proofs.YtjbepnkchoaipaaGreat
