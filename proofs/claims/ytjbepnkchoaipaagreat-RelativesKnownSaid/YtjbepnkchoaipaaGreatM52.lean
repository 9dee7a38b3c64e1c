import Derived.Test.YtjbepnkchoaipaaGreatM36
import Derived.Test.YtjbepnkchoaipaaGreatM48
import Derived.Test.YtjbepnkchoaipaaGreatM50
set_option linter.unusedVariables false
set_option linter.unusedSimpArgs false
/- Law 31, RelativesCut, the plain half: what lies on the disk behind each act. -/
namespace Go.Proofs.YtjbepnkchoaipaaGreat
namespace R
theorem eff_zero (s : J.St) (k : Nat) : J.eff s k 0 = k := by
  unfold J.eff
  split
  · rfl
  · rw [if_neg (by omega)]
theorem lastIx_range : ∀ (n k : Nat), k < n → J.lastIx (List.range n) k = k
  | 0, k, h => absurd h (by omega)
  | n + 1, k, h => by
    rw [List.range_succ, J.lastIx_snoc, List.length_range]
    by_cases e : n ≤ k
    · rw [if_pos e]; omega
    · rw [if_neg e]; exact lastIx_range n k (by omega)
theorem fold_heads : ∀ (l : List J.Wr) (m : J.Img), (∀ w ∈ l, w.kind = 0) → (J.foldDone m l).h0 = m.h0 ∧ (J.foldDone m l).h1 = m.h1
  | [], m, _ => ⟨rfl, rfl⟩
  | w :: t, m, h => by
    have hk := h w List.mem_cons_self
    obtain ⟨a, b⟩ := fold_heads t (J.done m w w.bs.length) (fun x hx => h x (List.mem_cons_of_mem _ hx))
    have e : (J.done m w w.bs.length).h0 = m.h0 ∧ (J.done m w w.bs.length).h1 = m.h1 := by
      unfold J.done J.Img.setArea
      rw [if_pos hk]
      split <;> exact ⟨rfl, rfl⟩
    exact ⟨a.trans e.1, b.trans e.2⟩
theorem cut_heads0 {u : Nat} {now : List (B × B)} {s : J.St} (h : Sto u now s) (k : Nat) : (J.cutImg s k 0).h0.length ≤ 90000000 ∧ (J.cutImg s k 0).h1.length ≤ 90000000 := by
  have hf := fold_heads (s.writes.take k) s.base (fun w hw => (h.wr w (List.mem_of_mem_take hw)).1)
  rw [h.base] at hf
  unfold J.cutImg
  split
  · rw [h.base, hf.1, hf.2]; exact ⟨by decide, by decide⟩
  · rw [if_pos rfl, h.base, hf.1, hf.2]; exact ⟨by decide, by decide⟩
/-- What is recovered. -/
theorem Kp.cut {nm : B} {u : Nat} {m : M} {L : List (List (B × B))} {s : J.St} (h : Kp nm u m L s) {k : Nat} (hk : k ≤ s.writes.length) : ∃ now c, L[k]? = some now ∧ J.Img.Holds True (J.cutImg s k 0) c now := by
  obtain ⟨now, h1, h2⟩ := h.hist.holds k 0 hk (.inl rfl)
  rw [eff_zero, lastIx_range _ _ (by rw [h.len]; omega)] at h1
  exact ⟨now, _, h1, h2⟩
/-- The last place whose number is not greater: it is that number. -/
theorem lastIx_le : ∀ (n : Nat) (l : List Nat) (k : Nat), l.length = n → 0 < n → (∀ h : 0 < l.length, l[0] = 0) → (l[J.lastIx l k]?.getD 0) ≤ k
  | 0, _, _, _, h, _ => absurd h (by omega)
  | n + 1, l, k, hl, _, h0 => by
    obtain ⟨a, x, rfl⟩ : ∃ a x, l = a ++ [x] := ⟨l.dropLast, l.getLast (by intro e; subst e; cases hl), (List.dropLast_concat_getLast _).symm⟩
    have hla : a.length = n := by simpa using hl
    rw [J.lastIx_snoc]
    by_cases hx : x ≤ k
    · rw [if_pos hx, List.getElem?_append_right (Nat.le_refl _)]; simpa using hx
    · rw [if_neg hx]
      cases n with
      | zero =>
        obtain rfl := List.eq_nil_of_length_eq_zero hla
        have := h0 (by simp)
        simp at this
        omega
      | succ n =>
        have hlt := J.lastIx_lt (n + 1) a k hla (by omega)
        rw [List.getElem?_append_left (by omega)]
        exact lastIx_le (n + 1) a k hla (by omega) (fun h => by have := h0 (by simp); rwa [List.getElem_append_left h] at this)
/-- Numbers that begin at 0 and grow by at most 1 meet each number up to the last. -/
theorem lastIx_hit : ∀ (n : Nat) (l : List Nat) (k : Nat), l.length = n → 0 < n → (∀ h : 0 < l.length, l[0] = 0) → (∀ i (h : i + 1 < l.length), l[i + 1] ≤ l[i] + 1) → (∀ h : l.length - 1 < l.length, k ≤ l[l.length - 1]) → l[J.lastIx l k]? = some k
  | 0, _, _, _, h, _, _, _ => absurd h (by omega)
  | n + 1, l, k, hl, _, h0, h1, h2 => by
    obtain ⟨a, x, rfl⟩ : ∃ a x, l = a ++ [x] := ⟨l.dropLast, l.getLast (by intro e; subst e; cases hl), (List.dropLast_concat_getLast _).symm⟩
    have hla : a.length = n := by simpa using hl
    have hkx : k ≤ x := by have := h2 (by simp); simpa using this
    rw [J.lastIx_snoc]
    by_cases hx : x ≤ k
    · rw [if_pos hx, List.getElem?_append_right (Nat.le_refl _)]
      have : x = k := by omega
      simp [this]
    · rw [if_neg hx]
      cases n with
      | zero =>
        obtain rfl := List.eq_nil_of_length_eq_zero hla
        have := h0 (by simp)
        simp at this
        omega
      | succ n =>
        have hlt := J.lastIx_lt (n + 1) a k hla (by omega)
        rw [List.getElem?_append_left (by omega)]
        refine lastIx_hit (n + 1) a k hla (by omega) (fun h => by have := h0 (by simp); rwa [List.getElem_append_left h] at this) (fun i h => ?_) (fun h => ?_)
        · have := h1 i (by simp; omega)
          rwa [List.getElem_append_left h, List.getElem_append_left (by omega)] at this
        · have := h1 (a.length - 1) (by simp; omega)
          rw [List.getElem_append_left h] at this
          have e : (a ++ [x])[a.length - 1 + 1]'(by simp; omega) = x := by
            have : a.length - 1 + 1 = a.length := by omega
            simp [this]
          rw [e] at this
          omega
end R
end Go.Proofs.YtjbepnkchoaipaaGreat
/- Law 31: own rows beside a file and the law's model; the rows of RelativesCut. -/
namespace Go.Proofs.YtjbepnkchoaipaaGreat
open Go.RowKit Go.Lib Go.Maps Go.WideMaps Go.Sort
set_option maxRecDepth 100000
theorem Tryz.infoRws : (Tryz.prog.info? 56).map (fun i => (i.zero, i.size, i.bytes)) = some (some (.slice none 0 0), 1, 24) := by kernel_rfl
theorem Tryz.infoBo : (Tryz.prog.info? 4).map (fun i => (i.zero, i.size, i.bytes)) = some (some (.bool false), 1, 1) := by kernel_rfl
def isSl (v : Value) : Prop := ∃ A n c, v = .slice A n c
def isBo (v : Value) : Prop := ∃ b, v = .bool b
def isIn (v : Value) : Prop := ∃ n, v = .int .i64 n
theorem sl_no (u : UInt8) : ¬ isSl (u8 u) := fun ⟨_, _, _, e⟩ => by cases e
theorem bo_no (u : UInt8) : ¬ isBo (u8 u) := fun ⟨_, e⟩ => by cases e
theorem in_no (u : UInt8) : ¬ isIn (u8 u) := fun ⟨_, e⟩ => by cases e
theorem one_cell (w : World) (x : Value) (t : TypeId) : (w.alloc (.cells #[x] t)).cell? ⟨w.heap.size, 0, none⟩ = some x := by
  rw [cell_of_row _ w.heap.size 0 _ _ _ (heap_alloc_new w _)]; rfl
section
variable {w0 : World} {p pf q : Nat} {nm : J.B} {u : Nat} {fs f1 rb : List (Nat × Obj)} {mf mm m : R.M} {L : List (List (J.B × J.B))} {v : Value} {W W' : World}
/-- The row grows. -/
theorem D3.grow {base : Nat} {e : TypeId} {o o' : Value} {n n' : Nat} {xs xs' : List Value} {pr : Value → Prop} (h : D3 w0 p pf nm u q (f1 ++ fs) mf mm L v rb W) (ho : OwnIn f1 base e o n xs pr) (hpr : ∀ u : UInt8, ¬ pr (u8 u)) (he : e ≠ 5) (hd : ∀ x ∈ f1, ∀ y ∈ rb ++ fs, y.1 ≠ x.1)
    (hg : W.grownBy W' o.ownBlock) (hloc : o'.ownBlock = o.ownBlock ∨ o'.ownBlock = some W.heap.size) (hrow : W'.ownsRow base e 1 o' n' xs') (hp : RowP pr W' o') :
    ∃ f1', D3 w0 p pf nm u q (f1' ++ fs) mf mm L v rb W' ∧ OwnIn f1' base e o' n' xs' pr ∧ ∀ x ∈ f1', ∀ y ∈ rb ++ fs, y.1 ≠ x.1 := by
  obtain ⟨hk, hr, hq⟩ := h
  have hk' : K w0 p pf nm u (f1 ++ ((q, mdO mm v) :: (rb ++ fs))) mf L W := hk.fewer (fun x hx => by
    simp only [List.mem_append, List.mem_cons] at hx ⊢
    rcases hx with h | h | h | h
    · exact .inr (.inr (.inl h))
    · exact .inl h
    · exact .inr (.inl h)
    · exact .inr (.inr (.inr h)))
  obtain ⟨f1', h1, h2, h3⟩ := hk'.grow ho hpr he (fun x hx y hy => by
    rcases List.mem_cons.1 hy with rfl | hy
    · exact (hq x (List.mem_append_right _ (List.mem_append_left _ hx))).symm
    · exact hd x hx y hy) hg hloc hrow hp
  refine ⟨f1', ⟨h1.fewer (fun x hx => ?_), hr, fun x hx => ?_⟩, h2, fun x hx y hy => h3 x hx y (List.mem_cons_of_mem _ hy)⟩
  · simp only [List.mem_append, List.mem_cons] at hx ⊢
    rcases hx with h | h | h | h
    · exact .inr (.inl h)
    · exact .inr (.inr (.inl h))
    · exact .inl h
    · exact .inr (.inr (.inr h))
  · rcases List.mem_append.1 hx with hx | hx
    · exact hq x (List.mem_append_left _ hx)
    · rcases List.mem_append.1 hx with hx | hx
      · exact (h3 x hx _ List.mem_cons_self).symm
      · exact hq x (List.mem_append_right _ (List.mem_append_right _ hx))
theorem D3.ownIn {base : Nat} {e : TypeId} {o : Value} {n : Nat} {xs : List Value} {pr : Value → Prop} (h : D3 w0 p pf nm u q fs mf mm L v rb W) (ho : OwnIn f1 base e o n xs pr) (hs : ∀ x ∈ f1, x ∈ fs) : W.ownsRow base e 1 o n xs ∧ RowP pr W o := ho.row W (fun x hx => h.get (hs x hx))
theorem D3.rin (h : D3 w0 p pf nm u q fs mf mm L v rb W) {rc : List (Nat × Obj)} {vi : Value} {l : R.Rows} (hr : RIn rc vi l) (hs : ∀ x ∈ rc, x ∈ rb ++ fs) : Rws W NoM vi l := by
  obtain ⟨⟨s, h1, _⟩, _⟩ := h
  rcases hr with ⟨e1, e2, _⟩ | ⟨g, c, o, e1, e2, e3, e4⟩
  · exact .inl ⟨e1, e2⟩
  · have hw := h1.get (List.mem_cons_of_mem _ (List.mem_cons_of_mem _ (hs (g, o) (by rw [e3]; exact List.mem_singleton_self _))))
    exact .inr ⟨g, c, e1, e2, (Array.getElem?_eq_some_iff.1 hw).1, fun h => h, e4 W hw⟩
end
/-- A list of blocks apart from others. -/
def Apart (f fs : List (Nat × Obj)) : Prop := ∀ x ∈ f, ∀ y ∈ fs, y.1 ≠ x.1
theorem Apart.symm {f g : List (Nat × Obj)} (h : Apart f g) : Apart g f := fun x hx y hy => (h y hy x hx).symm
theorem Apart.sub {f g g' : List (Nat × Obj)} (h : Apart f g) (hs : ∀ x ∈ g', x ∈ g) : Apart f g' := fun x hx y hy => h x hx y (hs y hy)
theorem Apart.app {f g g' : List (Nat × Obj)} (h : Apart f g) (h' : Apart f g') : Apart f (g ++ g') := fun x hx y hy => by
  rcases List.mem_append.1 hy with hy | hy
  · exact h x hx y hy
  · exact h' x hx y hy
theorem Apart.new {f rb rb' fs : List (Nat × Obj)} (h : Apart f rb) (hn : NewIn rb' rb fs) (hs : ∀ x ∈ f, x ∈ fs) : Apart f rb' := fun x hx y hy e => by
  obtain ⟨z, hz, e2⟩ := hn y hy x (hs x hx) e.symm
  exact h x hx z hz (e2.trans e)
end Go.Proofs.YtjbepnkchoaipaaGreat
/- Law 31: what holds at the beginning of a round of RelativesCut. -/
namespace Go.Proofs.YtjbepnkchoaipaaGreat
open Go.RowKit Go.Lib Go.Maps Go.WideMaps Go.Sort
set_option maxRecDepth 100000
/-- The file, the model and the three rows. -/
structure CutR (w1 : World) (p pf q u n1 n2 n3 : Nat) (o1 o2 o3 : Value) (x1 x2 x3 : List Value) (m : R.M) (L : List (List (J.B × J.B))) (v : Value) (rb f1 f2 f3 G : List (Nat × Obj)) (W : World) : Prop where
  hd : D3 w1 p pf [102] u q (f1 ++ (f2 ++ (f3 ++ G))) m m L v rb W
  r1 : OwnIn f1 w1.heap.size 56 o1 n1 x1 isSl
  r2 : OwnIn f2 w1.heap.size 4 o2 n2 x2 isBo
  r3 : OwnIn f3 w1.heap.size 3 o3 n3 x3 isIn
  s12 : Apart f1 f2
  s13 : Apart f1 f3
  s23 : Apart f2 f3
  s1 : Apart f1 (rb ++ G)
  s2 : Apart f2 (rb ++ G)
  s3 : Apart f3 (rb ++ G)
section
variable {w1 : World} {p pf q u n1 n2 n3 : Nat} {o1 o2 o3 : Value} {x1 x2 x3 : List Value} {m m' : R.M} {L L' : List (List (J.B × J.B))} {v v' : Value} {rb rb' f1 f2 f3 G : List (Nat × Obj)} {W W' : World}
theorem CutR.below (h : CutR w1 p pf q u n1 n2 n3 o1 o2 o3 x1 x2 x3 m L v rb f1 f2 f3 G W) (hb : Below W.heap.size W W') : CutR w1 p pf q u n1 n2 n3 o1 o2 o3 x1 x2 x3 m L v rb f1 f2 f3 G W' :=
  ⟨h.hd.below hb, h.r1, h.r2, h.r3, h.s12, h.s13, h.s23, h.s1, h.s2, h.s3⟩
theorem sub_l {α : Type} {a b : List α} : ∀ x ∈ a, x ∈ a ++ b := fun _ h => List.mem_append_left _ h
theorem sub_r {α : Type} {a b : List α} : ∀ x ∈ b, x ∈ a ++ b := fun _ h => List.mem_append_right _ h
theorem CutR.does (h : CutR w1 p pf q u n1 n2 n3 o1 o2 o3 x1 x2 x3 m L v rb f1 f2 f3 G W) (hd : D3 w1 p pf [102] (u + 1) q (rb ++ (f1 ++ (f2 ++ (f3 ++ G)))) m' m' L' v' rb' W') (hn : NewIn rb' rb (f1 ++ (f2 ++ (f3 ++ G)))) :
    CutR w1 p pf q (u + 1) n1 n2 n3 o1 o2 o3 x1 x2 x3 m' L' v' rb' f1 f2 f3 (rb ++ G) W' := by
  refine ⟨hd.fewer (fun x hx => ?_), h.r1, h.r2, h.r3, h.s12, h.s13, h.s23, ?_, ?_, ?_⟩
  · simp only [List.mem_append] at hx ⊢
    rcases hx with h | h | h | h | h
    · exact .inr (.inl h)
    · exact .inr (.inr (.inl h))
    · exact .inr (.inr (.inr (.inl h)))
    · exact .inl h
    · exact .inr (.inr (.inr (.inr h)))
  · exact ((h.s1.sub sub_l).new hn (fun x hx => by simp only [List.mem_append]; exact .inl hx)).app h.s1
  · exact ((h.s2.sub sub_l).new hn (fun x hx => by simp only [List.mem_append]; exact .inr (.inl hx))).app h.s2
  · exact ((h.s3.sub sub_l).new hn (fun x hx => by simp only [List.mem_append]; exact .inr (.inr (.inl hx)))).app h.s3
theorem CutR.grow1 (h : CutR w1 p pf q u n1 n2 n3 o1 o2 o3 x1 x2 x3 m L v rb f1 f2 f3 G W) {o' : Value} {n' : Nat} {x' : List Value} (hg : W.grownBy W' o1.ownBlock) (hloc : o'.ownBlock = o1.ownBlock ∨ o'.ownBlock = some W.heap.size) (hrow : W'.ownsRow w1.heap.size 56 1 o' n' x') (hp : RowP isSl W' o') :
    ∃ f1', CutR w1 p pf q u n' n2 n3 o' o2 o3 x' x2 x3 m L v rb f1' f2 f3 G W' := by
  obtain ⟨f1', a, b, c⟩ := h.hd.grow h.r1 sl_no (by decide) (show Apart f1 (rb ++ (f2 ++ (f3 ++ G))) from (h.s1.sub sub_l).app (h.s12.app (h.s13.app (h.s1.sub sub_r)))) hg hloc hrow hp
  have c : Apart f1' (rb ++ (f2 ++ (f3 ++ G))) := c
  exact ⟨f1', a, b, h.r2, h.r3, c.sub (fun x hx => by simp only [List.mem_append]; exact .inr (.inl hx)), c.sub (fun x hx => by simp only [List.mem_append]; exact .inr (.inr (.inl hx))), h.s23,
    c.sub (fun x hx => by simp only [List.mem_append] at hx ⊢; rcases hx with h | h; exact .inl h; exact .inr (.inr (.inr h))), h.s2, h.s3⟩
theorem CutR.grow2 (h : CutR w1 p pf q u n1 n2 n3 o1 o2 o3 x1 x2 x3 m L v rb f1 f2 f3 G W) {o' : Value} {n' : Nat} {x' : List Value} (hg : W.grownBy W' o2.ownBlock) (hloc : o'.ownBlock = o2.ownBlock ∨ o'.ownBlock = some W.heap.size) (hrow : W'.ownsRow w1.heap.size 4 1 o' n' x') (hp : RowP isBo W' o') :
    ∃ f2', CutR w1 p pf q u n1 n' n3 o1 o' o3 x1 x' x3 m L v rb f1 f2' f3 G W' := by
  have hd := h.hd.fewer (gs := f2 ++ (f1 ++ (f3 ++ G))) (fun x hx => by
    simp only [List.mem_append] at hx ⊢
    rcases hx with h | h | h
    · exact .inr (.inl h)
    · exact .inl h
    · exact .inr (.inr h))
  obtain ⟨f2', a, b, c⟩ := hd.grow h.r2 bo_no (by decide) (show Apart f2 (rb ++ (f1 ++ (f3 ++ G))) from (h.s2.sub sub_l).app (h.s12.symm.app (h.s23.app (h.s2.sub sub_r)))) hg hloc hrow hp
  have c : Apart f2' (rb ++ (f1 ++ (f3 ++ G))) := c
  refine ⟨f2', a.fewer (fun x hx => ?_), h.r1, b, h.r3, (c.sub (fun x hx => by simp only [List.mem_append]; exact .inr (.inl hx))).symm, h.s13, c.sub (fun x hx => by simp only [List.mem_append]; exact .inr (.inr (.inl hx))), h.s1,
    c.sub (fun x hx => by simp only [List.mem_append] at hx ⊢; rcases hx with h | h; exact .inl h; exact .inr (.inr (.inr h))), h.s3⟩
  simp only [List.mem_append] at hx ⊢
  rcases hx with h | h | h
  · exact .inr (.inl h)
  · exact .inl h
  · exact .inr (.inr h)
theorem CutR.grow3 (h : CutR w1 p pf q u n1 n2 n3 o1 o2 o3 x1 x2 x3 m L v rb f1 f2 f3 G W) {o' : Value} {n' : Nat} {x' : List Value} (hg : W.grownBy W' o3.ownBlock) (hloc : o'.ownBlock = o3.ownBlock ∨ o'.ownBlock = some W.heap.size) (hrow : W'.ownsRow w1.heap.size 3 1 o' n' x') (hp : RowP isIn W' o') :
    ∃ f3', CutR w1 p pf q u n1 n2 n' o1 o2 o' x1 x2 x' m L v rb f1 f2 f3' G W' := by
  have hd := h.hd.fewer (gs := f3 ++ (f1 ++ (f2 ++ G))) (fun x hx => by
    simp only [List.mem_append] at hx ⊢
    rcases hx with h | h | h | h
    · exact .inr (.inr (.inl h))
    · exact .inl h
    · exact .inr (.inl h)
    · exact .inr (.inr (.inr h)))
  obtain ⟨f3', a, b, c⟩ := hd.grow h.r3 in_no (by decide) (show Apart f3 (rb ++ (f1 ++ (f2 ++ G))) from (h.s3.sub sub_l).app (h.s13.symm.app (h.s23.symm.app (h.s3.sub sub_r)))) hg hloc hrow hp
  have c : Apart f3' (rb ++ (f1 ++ (f2 ++ G))) := c
  refine ⟨f3', a.fewer (fun x hx => ?_), h.r1, h.r2, b, h.s12, (c.sub (fun x hx => by simp only [List.mem_append]; exact .inr (.inl hx))).symm, (c.sub (fun x hx => by simp only [List.mem_append]; exact .inr (.inr (.inl hx)))).symm, h.s1, h.s2,
    c.sub (fun x hx => by simp only [List.mem_append] at hx ⊢; rcases hx with h | h; exact .inl h; exact .inr (.inr (.inr h)))⟩
  simp only [List.mem_append] at hx ⊢
  rcases hx with h | h | h | h
  · exact .inr (.inl h)
  · exact .inr (.inr (.inl h))
  · exact .inl h
  · exact .inr (.inr (.inr h))
theorem CutR.own1 (h : CutR w1 p pf q u n1 n2 n3 o1 o2 o3 x1 x2 x3 m L v rb f1 f2 f3 G W) : W.ownsRow w1.heap.size 56 1 o1 n1 x1 ∧ RowP isSl W o1 := h.hd.ownIn h.r1 (fun x hx => by simp only [List.mem_append]; exact .inl hx)
theorem CutR.own2 (h : CutR w1 p pf q u n1 n2 n3 o1 o2 o3 x1 x2 x3 m L v rb f1 f2 f3 G W) : W.ownsRow w1.heap.size 4 1 o2 n2 x2 ∧ RowP isBo W o2 := h.hd.ownIn h.r2 (fun x hx => by simp only [List.mem_append]; exact .inr (.inl hx))
theorem CutR.own3 (h : CutR w1 p pf q u n1 n2 n3 o1 o2 o3 x1 x2 x3 m L v rb f1 f2 f3 G W) : W.ownsRow w1.heap.size 3 1 o3 n3 x3 ∧ RowP isIn W o3 := h.hd.ownIn h.r3 (fun x hx => by simp only [List.mem_append]; exact .inr (.inr (.inl hx)))
end
/-- What is known of the acts done: their models, how many writes then; x1: the rows then. -/
structure CutQ (k : Nat) (S : List (R.M × Nat)) (x1 : List Value) (L : List (List (J.B × J.B))) (B : List (Nat × Obj)) : Prop where
  len : S.length = k + 1
  xlen : x1.length = k + 1
  sl : ∀ u ∈ x1, isSl u
  each : ∀ i (h : i < S.length), R.MOk 340 S[i].1 ∧ L[S[i].2]? = some (S[i].1.map [102]) ∧ ∃ rbi vi, (∀ x ∈ rbi, x ∈ B) ∧ x1[i]? = some vi ∧ RIn rbi vi S[i].1.rows
  zero : ∀ h : 0 < (S.map (·.2)).length, (S.map (·.2))[0] = 0
  step : ∀ i (h : i + 1 < (S.map (·.2)).length), (S.map (·.2))[i + 1] ≤ (S.map (·.2))[i] + 1
  last : ∀ h : k < (S.map (·.2)).length, (S.map (·.2))[k] + 1 = L.length
section
variable {k : Nat} {S : List (R.M × Nat)} {x1 : List Value} {m m' : R.M} {L L' : List (List (J.B × J.B))} {B rb rb' G : List (Nat × Obj)} {v v' : Value}
theorem ext_get {nm : J.B} (h : R.Ext nm L L' m') {i : Nat} {x : List (J.B × J.B)} (hx : L[i]? = some x) : L'[i]? = some x := by
  rcases h with rfl | rfl
  · exact hx
  · rw [List.getElem?_append_left (List.getElem?_eq_some_iff.1 hx).1]; exact hx
theorem ext_len {nm : J.B} (h : R.Ext nm L L' m') : L.length ≤ L'.length ∧ L'.length ≤ L.length + 1 := by
  rcases h with rfl | rfl
  · exact ⟨Nat.le_refl _, Nat.le_succ _⟩
  · rw [List.length_append, List.length_singleton]; exact ⟨Nat.le_succ _, Nat.le_refl _⟩
theorem CutQ.next (h : CutQ k S x1 L (rb ++ G)) (hE : R.Ext [102] L L' m') (hm : R.MOk 340 m') (hl : L'[L'.length - 1]? = some (m'.map [102])) (hv : isSl v') (hr : RIn rb' v' m'.rows) : CutQ (k + 1) (S ++ [(m', L'.length - 1)]) (x1 ++ [v']) L' (rb' ++ (rb ++ G)) := by
  have hlen := h.len
  have hxl := h.xlen
  have hel := ext_len hE
  have hlast := h.last (by rw [List.length_map]; omega)
  refine ⟨by rw [List.length_append, List.length_singleton]; omega, by rw [List.length_append, List.length_singleton]; omega, fun u hu => ?_, fun i hi => ?_, fun h0 => ?_, fun i hi => ?_, fun hi => ?_⟩
  · rcases List.mem_append.1 hu with hu | hu
    · exact h.sl u hu
    · rw [List.mem_singleton.1 hu]; exact hv
  · by_cases hik : i < S.length
    · rw [List.getElem_append_left hik]
      obtain ⟨a, b, rbi, vi, c, d, e⟩ := h.each i hik
      exact ⟨a, ext_get hE b, rbi, vi, fun x hx => List.mem_append_right _ (c x hx), by rw [List.getElem?_append_left (by omega)]; exact d, e⟩
    · have hi2 : i = S.length := by rw [List.length_append, List.length_singleton] at hi; omega
      subst hi2
      rw [List.getElem_append_right (Nat.le_refl _)]
      simp only [Nat.sub_self, List.getElem_singleton]
      exact ⟨hm, hl, rb', v', fun x hx => List.mem_append_left _ hx, by rw [List.getElem?_append_right (by omega)]; simp [hlen, hxl], hr⟩
  · have := h.zero (by rw [List.length_map]; omega)
    simp only [List.map_append] at h0 ⊢
    rw [List.getElem_append_left (by rw [List.length_map]; omega)]
    exact this
  · have hi' : i + 1 < S.length + 1 := by simpa using hi
    simp only [List.map_append, List.map_cons, List.map_nil]
    by_cases hik : i + 1 < S.length
    · rw [List.getElem_append_left (by rw [List.length_map]; omega), List.getElem_append_left (by rw [List.length_map]; omega)]
      exact h.step i (by rw [List.length_map]; omega)
    · have hi2 : i = k := by omega
      subst hi2
      rw [List.getElem_append_right (by rw [List.length_map]; omega), List.getElem_append_left (by rw [List.length_map]; omega)]
      simp only [List.getElem_singleton]
      omega
  · simp only [List.map_append, List.map_cons, List.map_nil] at hi ⊢
    rw [List.getElem_append_right (by rw [List.length_map]; omega)]
    simp only [List.getElem_singleton]
    omega
/-- What lies on the disk. -/
theorem CutQ.hit (h : CutQ k S x1 L B) {c : Nat} (hc : c < L.length) : ∃ i, ∃ hi : i < S.length, J.lastIx (S.map (·.2)) c = i ∧ S[i].2 = c ∧ L[c]? = some (S[i].1.map [102]) := by
  have hlen := h.len
  have hh := R.lastIx_hit (S.map (·.2)).length (S.map (·.2)) c rfl (by rw [List.length_map]; omega) h.zero h.step (fun hx => by
    have := h.last (by rw [List.length_map]; omega)
    have e : (S.map (·.2)).length - 1 = k := by rw [List.length_map]; omega
    simp only [e]
    omega)
  obtain ⟨hi, he⟩ := List.getElem?_eq_some_iff.1 hh
  have hi2 : J.lastIx (S.map (·.2)) c < S.length := by simpa using hi
  rw [List.getElem_map] at he
  exact ⟨_, hi2, rfl, he, (congrArg (fun n => L[n]?) he.symm).trans (h.each _ hi2).2.1⟩
end
end Go.Proofs.YtjbepnkchoaipaaGreat
/- Law 31: RelativesCut: what the walk needs. -/
namespace Go.Proofs.YtjbepnkchoaipaaGreat
open Go.RowKit Go.Lib Go.Maps Go.WideMaps Go.Sort
set_option maxRecDepth 100000
theorem Tryz.infoIn : (Tryz.prog.info? 3).map (fun i => (i.zero, i.size, i.bytes)) = some (some (.int .i64 0), 1, 8) := by kernel_rfl
/-- The image of a cut. -/
theorem imgC_parts {w : World} {M : Nat → Prop} {v : Value} {m : J.Img} (h : ImgC w M v m) : ∃ A0 A1 A2 A3, v = imgW (.slice A0 m.h0.length m.h0.length) (.slice A1 m.h1.length m.h1.length) (.slice A2 m.a0.length m.a0.length) (.slice A3 m.a1.length m.a1.length) ∧
    Sl w NoM (.slice A0 m.h0.length m.h0.length) m.h0 ∧ Sl w NoM (.slice A1 m.h1.length m.h1.length) m.h1 ∧ Sl w NoM (.slice A2 m.a0.length m.a0.length) m.a0 ∧ Sl w NoM (.slice A3 m.a1.length m.a1.length) m.a1 := by
  obtain ⟨y0, y1, y2, y3, rfl, q0, q1, q2, q3⟩ := h
  obtain ⟨A0, rfl⟩ := q0.slice_
  obtain ⟨A1, rfl⟩ := q1.slice_
  obtain ⟨A2, rfl⟩ := q2.slice_
  obtain ⟨A3, rfl⟩ := q3.slice_
  exact ⟨A0, A1, A2, A3, rfl, q0.sl.weak (fun _ h => h.elim), q1.sl.weak (fun _ h => h.elim), q2.sl.weak (fun _ h => h.elim), q3.sl.weak (fun _ h => h.elim)⟩
section
variable {w0 : World} {p pf q : Nat} {nm : J.B} {u : Nat} {fs rb : List (Nat × Obj)} {mf mm m : R.M} {L : List (List (J.B × J.B))} {v : Value} {w w' : World}
theorem D3.lastL (h : D3 w0 p pf nm u q fs mf mm L v rb w) : L[L.length - 1]? = some (mf.map nm) ∧ 0 < L.length := by
  obtain ⟨⟨s, _, h2, _⟩, _⟩ := h
  have := h2.last
  rw [show s.writes.length = L.length - 1 by have := h2.len; omega] at this
  exact ⟨this, by have := h2.len; omega⟩
theorem D3.writes (h : D3 w0 p pf nm u q fs mf mm L v rb w) : Calls Tryz.prog 20 #[.pointer (some ⟨p, 0, none⟩)] w fun e w' => e = .returned (.int .i64 (L.length - 1 : Nat)) ∧ w = w' := by
  obtain ⟨⟨s, h1, h2, _⟩, _⟩ := h
  have := at_writes h1
  rw [show s.writes.length = L.length - 1 by have := h2.len; omega] at this
  exact this
theorem D3.lenL (h : D3 w0 p pf nm u q fs mf mm L v rb w) : L.length ≤ 16777217 := by
  obtain ⟨⟨s, h1, h2, _⟩, _⟩ := h
  have ok := h1.ok
  have := ok.writes
  have := ok.logged
  have := h2.len
  omega
/-- What Cut answers, and what Recover makes of it. -/
theorem D3.cut (h : D3 w0 p pf nm u q fs mf mm L v rb w) {k : Nat} (hk : k < L.length) :
    ∃ CI c now, L[k]? = some now ∧ J.Img.Holds True CI c now ∧ (CI.h0.length ≤ 90000000 ∧ CI.h1.length ≤ 90000000) ∧
      Calls Tryz.prog 21 #[.pointer (some ⟨p, 0, none⟩), .int .i64 k, .int .i64 0] w fun e w' => ∃ v', e = .returned (.tuple #[v', .int .i64 0]) ∧ ImgC w' (· < w.heap.size) v' CI ∧ D3 w0 p pf nm u q fs mf mm L v rb w' := by
  obtain ⟨⟨s, h1, h2, h3, h4⟩, hr, hq⟩ := h
  have hkl : k ≤ s.writes.length := by have := h2.len; omega
  obtain ⟨now, c, e1, e2⟩ := h2.cut hkl
  refine ⟨_, c, now, e1, e2, R.cut_heads0 h2.sto k, ?_⟩
  refine (at_cut h1 h2.sto.wok k 0 hkl (.inl rfl)).mono ?_
  rintro e w' ⟨v', rfl, hi, ha⟩
  exact ⟨v', rfl, hi, ⟨s, ha, h2, h3, h4⟩, hr, hq⟩
theorem own_lit1 {base : Nat} {W : World} (x : Value) (t : TypeId) (pr : Value → Prop) (hb : base ≤ W.heap.size) (hx : pr x) : OwnIn [(W.heap.size, .cells #[x] t)] base t (.slice (some ⟨W.heap.size, 0, none⟩) 1 1) 1 [x] pr := by
  have h0 : (W.alloc (.cells #[x] t)).ownsRow base t 1 (.slice (some ⟨W.heap.size, 0, none⟩) 1 1) 1 [x] :=
    World.ownsRow_lit (base := base) (e := t) (size := 1) W #[x] 1 hb (by unfold maxLen; omega) rfl
  have h1 := rowP_lit pr W x 1 1 t hx
  refine ⟨fun W' hW => ?_, .inr ⟨W.heap.size, _, rfl, rfl⟩⟩
  have hg := hW _ List.mem_cons_self
  have hs : ∀ k, (Value.slice (some ⟨W.heap.size, 0, none⟩) 1 1).ownBlock = some k → W'.heap[k]? = (W.alloc (.cells #[x] t)).heap[k]? := fun k e => by
    have : W.heap.size = k := by simpa [Value.ownBlock] using e
    subst this
    exact hg.trans (heap_alloc_new W _).symm
  exact ⟨own_same h0 hs, h1.same hs⟩
end
abbrev boOf (x : R.M × Nat) : Value := .bool x.1.there
abbrev inOf (x : R.M × Nat) : Value := .int .i64 (x.2 : Nat)
theorem apart_nil (f : List (Nat × Obj)) : Apart f ([] ++ []) := fun _ _ _ h => by cases h
/-- The beginning of a round. -/
def CutI (w1 : World) (p pf q k : Nat) (o1 o2 o3 : Value) (W : World) : Prop :=
  ∃ S f1 f2 f3 G m Lc v rb x1, CutR w1 p pf q k (k + 1) (k + 1) (k + 1) o1 o2 o3 x1 (S.map boOf) (S.map inOf) m Lc v rb f1 f2 f3 G W ∧ CutQ k S x1 Lc (rb ++ G)
theorem cutI_0 {w1 w2 : World} {p pf q : Nat} {m : R.M} (h : D3 w1 p pf [102] 0 q [] m m [[]] (.slice none 0 0) [] w2) (hr : m.rows = []) (ht : m.there = false) :
    CutI w1 p pf q 0 (.slice (some ⟨w2.heap.size, 0, none⟩) 1 1) (.slice (some ⟨w2.heap.size + 1, 0, none⟩) 1 1) (.slice (some ⟨w2.heap.size + 1 + 1, 0, none⟩) 1 1)
      (((w2.alloc (.cells #[.slice none 0 0] 56)).alloc (.cells #[.bool false] 4)).alloc (.cells #[.int .i64 0] 3)) := by
  have hm := h.mok
  have hsz := h.bel.size
  have hd := ((h.more (.cells #[.slice none 0 0] 56)).more (.cells #[.bool false] 4)).more (.cells #[.int .i64 0] 3)
  have z1 : (w2.alloc (.cells #[.slice none 0 0] 56)).heap.size = w2.heap.size + 1 := by simp
  have z2 : ((w2.alloc (.cells #[.slice none 0 0] 56)).alloc (.cells #[.bool false] 4)).heap.size = w2.heap.size + 1 + 1 := by simp
  have a1 := own_lit1 (base := w1.heap.size) (W := w2) (.slice none 0 0) 56 isSl hsz ⟨_, _, _, rfl⟩
  have a2 := own_lit1 (base := w1.heap.size) (W := w2.alloc (.cells #[.slice none 0 0] 56)) (.bool false) 4 isBo (by rw [z1]; omega) ⟨_, rfl⟩
  have a3 := own_lit1 (base := w1.heap.size) (W := (w2.alloc (.cells #[.slice none 0 0] 56)).alloc (.cells #[.bool false] 4)) (.int .i64 0) 3 isIn (by rw [z2]; omega) ⟨_, rfl⟩
  rw [z2] at a3 hd
  rw [z1] at a2 hd
  have hmap : m.map [102] = [] := by unfold R.M.map R.M.at; rw [ht]; rfl
  have ne : ∀ {a b : Nat} {x y : Obj}, a ≠ b → Apart [(a, x)] [(b, y)] := fun hab u hu v hv => by
    simp only [List.mem_singleton] at hu hv
    subst hu hv
    exact fun e => hab e.symm
  refine ⟨[(m, 0)], [(w2.heap.size, .cells #[.slice none 0 0] 56)], [(w2.heap.size + 1, .cells #[.bool false] 4)], [(w2.heap.size + 1 + 1, .cells #[.int .i64 0] 3)], [], m, [[]], .slice none 0 0, [], [.slice none 0 0],
    ⟨hd.fewer (fun x hx => ?_), a1, ?_, ?_, ne (by omega), ne (by omega), ne (by omega), apart_nil _, apart_nil _, apart_nil _⟩, ?_⟩
  · simp only [List.mem_append, List.mem_cons, List.not_mem_nil, or_false] at hx ⊢
    rcases hx with h | h | h
    · exact .inr (.inr h)
    · exact .inr (.inl h)
    · exact .inl h
  · rw [show [(m, 0)].map boOf = [.bool false] by simp [boOf, ht]]; exact a2
  · exact a3
  · refine ⟨rfl, rfl, fun u hu => ?_, fun i hi => ?_, fun _ => rfl, fun i hi => ?_, fun hi => ?_⟩
    · rw [List.mem_singleton.1 hu]; exact ⟨_, _, _, rfl⟩
    · have hi : i < 1 := hi
      obtain rfl : i = 0 := by omega
      refine ⟨hm.mono (Nat.zero_le _), by rw [show ([(m, 0)] : List (R.M × Nat))[0] = (m, 0) from rfl]; show some [] = some (m.map [102]); rw [hmap], [], .slice none 0 0, (fun x hx => by cases hx), rfl, .inl ⟨rfl, hr, rfl⟩⟩
    · have hi : i + 1 < 1 := hi
      omega
    · rfl
/-- What lies in the three rows. -/
theorem CutI.rows {w1 W : World} {p pf q k : Nat} {o1 o2 o3 : Value} (h : CutI w1 p pf q k o1 o2 o3 W) : ∃ g1 g2 g3 c1 c2 c3, o1 = .slice (some ⟨g1, 0, none⟩) (k + 1) c1 ∧ o2 = .slice (some ⟨g2, 0, none⟩) (k + 1) c2 ∧ o3 = .slice (some ⟨g3, 0, none⟩) (k + 1) c3 := by
  obtain ⟨S, f1, f2, f3, G, m, Lc, v, rb, x1, h, _⟩ := h
  have a1 := h.own1.1
  have a2 := h.own2.1
  have a3 := h.own3.1
  rcases a1.2 with ⟨_, h0⟩ | ⟨g1, c1, _, e1, _⟩
  · omega
  rcases a2.2 with ⟨_, h0⟩ | ⟨g2, c2, _, e2, _⟩
  · omega
  rcases a3.2 with ⟨_, h0⟩ | ⟨g3, c3, _, e3, _⟩
  · omega
  exact ⟨g1, g2, g3, c1, c2, c3, e1, e2, e3⟩
end Go.Proofs.YtjbepnkchoaipaaGreat
/- Law 31: RelativesCut returns true. -/
namespace Go.Proofs.YtjbepnkchoaipaaGreat
open Go.RowKit Go.Lib Go.Maps Go.WideMaps Go.Sort
set_option maxRecDepth 100000
theorem cut31_lives (rel : Bool) (sz : Nat) (A : Option Addr) (c : Nat) (L : List R.Ac) (q : Nat) (w : World) (ha : ActsAt w NoM A L) (hl : L.length ≤ 9223372036854775807) (hv : ∀ a ∈ L, a.val.length ≤ 9223372036854775807) (h : 100 < R.units L) :
    Calls Tryz.prog 5 #[.agg #[.bool rel, .int .u8 sz, .slice A L.length c], .int .u16 q] w fun e w' => e = .returned (.bool true) ∧ Below w.heap.size w w' := by
  have hbox := heap_alloc_new w (.cells #[.bool rel, .int .u8 sz, .slice A L.length c] 46)
  have hcb := fun j => cell_of_row _ w.heap.size j _ _ _ hbox
  have HB0 := Lib.hid ((Below.refl w.heap.size w).alloc (Nat.le_refl _) (.cells #[.bool rel, .int .u8 sz, .slice A L.length c] 46))
  have hbg := big_any A c L 100 (w.alloc (.cells #[.bool rel, .int .u8 sz, .slice A L.length c] 46)) (ha.below HB0.out) (by decide) hl hv
  rw [decide_eq_true h] at hbg
  have HB := Lib.hid hbg
  have HL := Lib.hid (fun W => lives_any W)
  clear ha hl hv hbg h hbox
  go_enter Tryz.func5, Tryz.ntmps5
  go_wp2_with fail
  refine HB.out.mono ?_
  rintro e Y ⟨rfl, rfl⟩
  go_wp2_with fail
  refine (HL.out _).mono ?_
  rintro e w1 ⟨rfl, hb⟩
  have HB1 := Lib.hid (HB0.out.trans (hb.mono HB0.out.size))
  clear hb HL HB HB0 hcb
  go_wp2
  go_ret
  exact ⟨rfl, HB1.out⟩
theorem bo_all (S : List (R.M × Nat)) : ∀ u ∈ S.map boOf, isBo u := fun u hu => by
  obtain ⟨x, _, rfl⟩ := List.mem_map.1 hu
  exact ⟨_, rfl⟩
theorem in_all (S : List (R.M × Nat)) : ∀ u ∈ S.map inOf, isIn u := fun u hu => by
  obtain ⟨x, _, rfl⟩ := List.mem_map.1 hu
  exact ⟨_, rfl⟩
set_option maxHeartbeats 4000000 in
theorem cut31_small (rel : Bool) (sz : Nat) (hsz : sz < 256) (A : Option Addr) (c : Nat) (L : List R.Ac) (a : Nat) (hat : a ≤ 65535) (w : World) (ha : ActsAt w NoM A L) (hu : R.units L ≤ 100) :
    Calls Tryz.prog 5 #[.agg #[.bool rel, .int .u8 sz, .slice A L.length c], .int .u16 a] w fun e w' => e = .returned (.bool true) ∧ Below w.heap.size w w' := by
  obtain ⟨i1, hi1, z11, z12, z13⟩ := info_parts Tryz.infoRws
  obtain ⟨i2, hi2, z21, z22, z23⟩ := info_parts Tryz.infoBo
  obtain ⟨i3, hi3, z31, z32, z33⟩ := info_parts Tryz.infoIn
  have hll : L.length ≤ 100 := Nat.le_trans (R.units_len L) hu
  have hbox := heap_alloc_new w (.cells #[.bool rel, .int .u8 sz, .slice A L.length c] 46)
  have hcb := fun j => cell_of_row _ w.heap.size j _ _ _ hbox
  have HB0 := Lib.hid ((Below.refl w.heap.size w).alloc (Nat.le_refl _) (.cells #[.bool rel, .int .u8 sz, .slice A L.length c] 46))
  have hvl : ∀ a ∈ L, a.val.length ≤ 800 := fun a h => by have := R.units_le L a h; omega
  have HBG := Lib.hid (big_any A c L 100 (w.alloc (.cells #[.bool rel, .int .u8 sz, .slice A L.length c] 46)) (ha.below HB0.out) (by decide) (by omega) (fun a h => by have := hvl a h; omega))
  rw [decide_eq_false (by omega)] at HBG
  have HA := Lib.hid (ha.below HB0.out)
  have HVL := Lib.hid hvl
  have HL := Lib.hid (fun W => lives_any W)
  have HAT := Lib.hid hat
  have HBL := Lib.hid (show w.heap.size < (w.alloc (.cells #[.bool rel, .int .u8 sz, .slice A L.length c] 46)).heap.size by simp)
  clear ha hu hbox hvl hat
  go_enter Tryz.func5, Tryz.ntmps5
  go_wp2_with fail
  refine HBG.out.mono ?_
  rintro e Y ⟨rfl, rfl⟩
  clear HBG
  generalize w.alloc (.cells #[.bool rel, .int .u8 sz, .slice A L.length c] 46) = wa at HB0 HA HBL hcb ⊢
  go_wp2_with fail
  refine (made_any rel sz hsz A L.length c _).mono ?_
  rintro e w2 ⟨w1, hb1, p, pf, q, rfl, hd⟩
  have HCB := Lib.hid (fun (j : Nat) => (hb1.cell (p := ⟨w.heap.size, j, none⟩) HBL.out).trans (hcb j))
  have HA1 := Lib.hid (HA.out.below hb1)
  have HI0 := Lib.hid (cutI_0 hd rfl rfl)
  have HBW := Lib.hid (HB0.out.trans (hb1.mono HB0.out.size))
  have HBL1 := Lib.hid (Nat.lt_of_lt_of_le HBL.out hb1.size)
  clear hb1 hd hcb HA HB0 HBL
  go_wp2
  go_loopw [8, 9, 10, 11] (fun o1 o2 o3 i W => ∃ k : Nat, k ≤ L.length ∧ i = .int .i64 k ∧ Hid (CutI w1 p pf q k o1 o2 o3 W)) (fun _ _ _ i _ => L.length - (intOf i).toNat)
  case atStart => exact ⟨0, Nat.zero_le _, rfl, HI0⟩
  case round =>
    clear HI0
    obtain ⟨k, hk, rfl, HI⟩ := hrel
    obtain ⟨g1, g2, g3, c1, c2, c3, e1, e2, e3⟩ := HI.out.rows
    by_cases hlt : k < L.length
    · subst e1 e2 e3
      obtain ⟨S, f1, f2, f3, G, m, Lc, v, rb, x1, hR, hQ⟩ := HI.out
      have hcb := fun (j : Nat) => (hR.hd.bel.cell (p := ⟨w.heap.size, j, none⟩) HBL1.out).trans (HCB.out j)
      obtain ⟨ba, oa, rfl, hba, _, hcs⟩ := HA1.out (by omega)
      obtain ⟨h0, h1, ⟨va, h2, hsl⟩, hw8, hn16⟩ := hcs k hlt
      obtain ⟨Av, cv, rfl, _, hby⟩ := hsl.by
      have hin : DoIn w1 p pf [102] k q (f1 ++ (f2 ++ (f3 ++ G))) m Lc v rb L[k].n Av cv L[k].val wr := ⟨hR.hd, by omega, src_old hsl, hby.below hR.hd.bel, hn16, by have := HVL.out _ (List.getElem_mem hlt); omega⟩
      have HDO := Lib.hid (does_any L[k] Av cv wr hin)
      have hac0 := (hR.hd.bel.cell (p := ⟨ba, oa + k * 3, none⟩) hba).trans h0
      have hac1 := (hR.hd.bel.cell (p := ⟨ba, oa + k * 3 + 1, none⟩) hba).trans h1
      have hac2 := (hR.hd.bel.cell (p := ⟨ba, oa + k * 3 + 2, none⟩) hba).trans h2
      have HRS := Lib.hid hR
      have HQS := Lib.hid hQ
      have HLT := Lib.hid hlt
      clear hcs h0 h1 h2 hsl hby hin hba hw8 hn16 HI hR hQ
      generalize L[k] = ac at HDO hac0 hac1 hac2
      go_wp2_with fail
      refine HDO.out.mono ?_
      rintro e w3 ⟨rfl, L', v', rb', hE, hd3, hnw⟩
      generalize m.does ac = m3 at hd3 hE
      clear HDO hac0 hac1 hac2 hcb
      obtain ⟨A3, c3', rfl⟩ := hd3.sl
      have hr3 := HRS.out.does hd3 hnw
      have hq3 := HQS.out.next hE (hd3.mok.mono (by omega)) hd3.lastL.1 ⟨A3, _, c3', rfl⟩ hd3.2.1
      have HQ3 := Lib.hid hq3
      have HS1 := Lib.hid HQS.out.sl
      have HSZ := Lib.hid hr3.hd.bel.size
      have hcq := fun j => cell_of_row w3 q j _ _ _ hr3.hd.row
      have hra := hr3.below ((Below.refl _ w3).alloc (Nat.le_refl _) (.cells #[.slice A3 m3.rows.length c3'] 56))
      have HRA := Lib.hid hra
      have HO1 := Lib.hid hra.own1.1
      have HP1 := Lib.hid hra.own1.2
      clear hd3 hE hnw hr3 hq3 hra HRS HQS
      go_wp2_with (at_builtin; refine wpList_append_P _ rfl _ _ 61 rfl isSl w1.heap.size 56 i1 (.slice none 0 0) 24 Tryz.underlying61 hi1 z11 z12 z13 rfl ⟨_, _, _, rfl⟩ _ (k + 1) x1 rfl HO1.out HP1.out HS1.out ⟨w3.heap.size, 0, none⟩ 1 _ rfl (one_cell _ _ _) rfl ⟨_, _, _, rfl⟩ (by unfold maxLen; omega) (by omega) (by have := HSZ.out; simp; omega) ?_)
      intro o1' w4 hown4 hg4 hloc4 hp4
      obtain ⟨f1', hr4⟩ := HRA.out.grow1 hg4 (by rw [World.size_alloc]; exact hloc4) hown4 hp4
      have HSZ4 := Lib.hid hr4.hd.bel.size
      have hcq := fun j => cell_of_row w4 q j _ _ _ hr4.hd.row
      have hra := hr4.below ((Below.refl _ w4).alloc (Nat.le_refl _) (.cells #[.bool m3.there] 4))
      have HRB := Lib.hid hra
      have HO2 := Lib.hid hra.own2.1
      have HP2 := Lib.hid hra.own2.2
      clear hr4 hra HRA HO1 HP1 HS1 hown4 hg4 hloc4 hp4 HSZ
      go_wp2_with (at_builtin; refine wpList_append_P _ rfl _ _ 62 rfl isBo w1.heap.size 4 i2 (.bool false) 1 Tryz.underlying62 hi2 z21 z22 z23 rfl ⟨_, rfl⟩ _ (k + 1) (S.map boOf) rfl HO2.out HP2.out (bo_all S) ⟨w4.heap.size, 0, none⟩ 1 _ rfl (one_cell _ _ _) rfl ⟨_, rfl⟩ (by unfold maxLen; omega) (by omega) (by have := HSZ4.out; simp; omega) ?_)
      intro o2' w5 hown5 hg5 hloc5 hp5
      obtain ⟨f2', hr5⟩ := HRB.out.grow2 hg5 (by rw [World.size_alloc]; exact hloc5) hown5 hp5
      have HWR := Lib.hid hr5.hd.writes
      have hll5 := hr5.hd.lenL
      have HSZ5 := Lib.hid hr5.hd.bel.size
      obtain ⟨wl, hwl⟩ : ∃ wl, wl = L'.length - 1 := ⟨_, rfl⟩
      rw [← hwl] at HWR
      have hwl5 : wl ≤ 20000000 := by omega
      have HWL := Lib.hid hwl
      have hra := hr5.below ((Below.refl _ w5).alloc (Nat.le_refl _) (.cells #[.int .i64 wl] 3))
      have HRC := Lib.hid hra
      have HO3 := Lib.hid hra.own3.1
      have HP3 := Lib.hid hra.own3.2
      clear hr5 hra HRB HO2 HP2 hown5 hg5 hloc5 hp5 HSZ4 hwl hll5 hcq
      go_wp2_with fail
      refine HWR.out.mono ?_
      rintro e Y ⟨rfl, rfl⟩
      go_wp2_with (at_builtin; refine wpList_append_P _ rfl _ _ 63 rfl isIn w1.heap.size 3 i3 (.int .i64 0) 8 Tryz.underlying63 hi3 z31 z32 z33 rfl ⟨_, rfl⟩ _ (k + 1) (S.map inOf) rfl HO3.out HP3.out (in_all S) ⟨w5.heap.size, 0, none⟩ 1 _ rfl (one_cell _ _ _) rfl ⟨_, rfl⟩ (by unfold maxLen; omega) (by omega) (by have := HSZ5.out; simp; omega) ?_)
      intro o3' w6 hown6 hg6 hloc6 hp6
      obtain ⟨f3', hr6⟩ := HRC.out.grow3 hg6 (by rw [World.size_alloc]; exact hloc6) hown6 hp6
      have HN := Lib.hid (show CutI w1 p pf q (k + 1) o1' o2' o3' w6 from by
        refine ⟨S ++ [(m3, L'.length - 1)], f1', f2', f3', rb ++ G, m3, L', .slice A3 m3.rows.length c3', rb', x1 ++ [.slice A3 m3.rows.length c3'], ?_, HQ3.out⟩
        rw [← HWL.out, List.map_append, List.map_append]
        exact hr6)
      clear hr6 HRC HO3 HP3 hown6 hg6 hloc6 hp6 HSZ5 HQ3 HWR
      go_wp2_with fail
      go_roundw
      case rel => exact ⟨k + 1, HLT.out, by go_num, HN⟩
      case measure => have := HLT.out; simp [intOf]; omega
    · obtain rfl : k = L.length := by omega
      obtain ⟨N, hN⟩ : ∃ N, N = L.length + 1 := ⟨_, rfl⟩
      rw [← hN] at e1 e2 e3
      subst e1 e2 e3
      obtain ⟨S, f1, f2, f3, G, m, Lc, v, rb, x1, hR, hQ⟩ := HI.out
      have hcb := fun (j : Nat) => (hR.hd.bel.cell (p := ⟨w.heap.size, j, none⟩) HBL1.out).trans (HCB.out j)
      have hN1 : N ≤ 101 := by omega
      have HWR := Lib.hid hR.hd.writes
      have hll := hR.hd.lenL
      have h0 := hR.hd.lastL.2
      obtain ⟨wl, hwl⟩ : ∃ wl, wl = Lc.length - 1 := ⟨_, rfl⟩
      rw [← hwl] at HWR
      have hwl5 : wl ≤ 20000000 := by omega
      have hrem : (a : Int).tmod ((wl : Int) + 1) = ((a % (wl + 1) : Nat) : Int) := by
        rw [show (wl : Int) + 1 = ((wl + 1 : Nat) : Int) from rfl]; rfl
      have hKl : a % (wl + 1) < Lc.length := by have : a % (wl + 1) < wl + 1 := Nat.mod_lt _ (Nat.succ_pos _); omega
      generalize a % (wl + 1) = KK at hrem hKl
      have hne : ¬ ((wl : Int) + 1 = 0) := by omega
      have hwt : wrap64 (a : Int) = (a : Int) := IntWalk.wrap64_in _ (by have := HAT.out; omega)
      obtain ⟨CI, c', now, hnow, hhold, hch, hcut⟩ := hR.hd.cut hKl
      obtain ⟨i, hi, hix, hSi, hLi⟩ := hQ.hit hKl
      obtain ⟨hmk, _, rbi, vi, hsub, hxi, hrin⟩ := hQ.each i hi
      have hni : now = S[i].1.map [102] := by rw [hLi] at hnow; injection hnow with h; exact h.symm
      have hSl := hQ.len
      have hwsl : (S.map (·.2)).length = N := by rw [List.length_map]; omega
      have hbi : (S.map boOf)[i]? = some (.bool S[i].1.there) := by simp [hi]
      have hws : ∀ j (h : j < (S.map (·.2)).length), (S.map inOf)[j]? = some (.int .i64 ((S.map (·.2))[j] : Nat)) := fun j h => by
        have hj : j < S.length := by simpa using h
        simp [hj]
      have hvi : isSl vi := by
        have := (List.getElem?_eq_some_iff.1 hxi)
        obtain ⟨hx, e⟩ := this
        rw [← e]; exact hQ.sl _ (List.getElem_mem hx)
      obtain ⟨Avi, nvi, cvi, rfl⟩ := hvi
      have HCUT := Lib.hid hcut
      have HNI := Lib.hid hni
      have HHO := Lib.hid hhold
      have HCH := Lib.hid hch
      have HMK := Lib.hid hmk
      have HRI := Lib.hid hrin
      have HSU := Lib.hid hsub
      have HXI := Lib.hid hxi
      have HBI := Lib.hid hbi
      have HWS := Lib.hid hws
      have HIX := Lib.hid hix
      have HWSL := Lib.hid hwsl
      have HR := Lib.hid hR
      have HNN := Lib.hid hN
      have hiN : i < N := by omega
      clear hll h0 hwl hnow hhold hch hcut hix hSi hLi hmk hsub hxi hrin hni hSl hbi hws hR hQ hwsl hN HI
      generalize S[i].1 = mi at HNI HMK HRI HBI
      generalize S.map (·.2) = ws at HWS HIX HWSL
      go_wp2_with fail
      refine HWR.out.mono ?_
      rintro e Y ⟨rfl, rfl⟩
      go_wp2_with fail
      clear hrem hne hwt hcb
      refine HCUT.out.mono ?_
      rintro e w3 ⟨v', rfl, hi3, hd3⟩
      obtain ⟨I0, I1, I2, I3, rfl, q0, q1, q2, q3⟩ := imgC_parts hi3
      have HD3 := Lib.hid hd3
      have HQ0 := Lib.hid q0
      have HQ1 := Lib.hid q1
      have HQ2 := Lib.hid q2
      have HQ3 := Lib.hid q3
      have HBA := Lib.hid ((Below.refl _ w3).alloc (Nat.le_refl _) (.cells #[.slice I0 CI.h0.length CI.h0.length, .slice I1 CI.h1.length CI.h1.length, .slice I2 CI.a0.length CI.a0.length, .slice I3 CI.a1.length CI.a1.length] 67))
      clear hi3 hd3 q0 q1 q2 q3 HCUT HWR
      go_wp2_with fail
      generalize w3.alloc (.cells #[.slice I0 CI.h0.length CI.h0.length, .slice I1 CI.h1.length CI.h1.length, .slice I2 CI.a0.length CI.a0.length, .slice I3 CI.a1.length CI.a1.length] 67) = w3a at HBA ⊢
      refine (at_recover_holds w3a CI c' now HHO.out _ _ _ _ w3a (Below.refl _ _) (HQ0.out.step (Step.of_below HBA.out)) (HQ1.out.step (Step.of_below HBA.out)) (HQ2.out.step (Step.of_below HBA.out)) (HQ3.out.step (Step.of_below HBA.out)) HCH.out.1 HCH.out.2).mono ?_
      rintro e w4 ⟨p4, at4, rfl, ha4, _, _, _, hb4⟩
      have hsn : (J.recovered CI at4 c' now).now = now := rfl
      generalize J.recovered CI at4 c' now = s4 at ha4 hsn
      have HD4 := Lib.hid ((HD3.out.below HBA.out).below hb4)
      have hR4 : CutR w1 p pf q _ _ _ _ _ _ _ _ _ _ _ _ _ _ _ _ _ _ w4 := ⟨HD4.out, HR.out.r1, HR.out.r2, HR.out.r3, HR.out.s12, HR.out.s13, HR.out.s23, HR.out.s1, HR.out.s2, HR.out.s3⟩
      have hc3 := fun j (hj : j < ws.length) => hR4.own3.1.cells (g := g3) rfl j _ (HWS.out j hj)
      have hc2 := hR4.own2.1.cells (g := g2) rfl i _ HBI.out
      have hc1 := hR4.own1.1.cells (g := g1) rfl i _ HXI.out
      have hrw := (HD4.out.below ((Below.refl _ w4).drew)).rin HRI.out (fun x hx => by
        have := HSU.out x hx
        simp only [List.mem_append] at this ⊢
        rcases this with h | h
        · exact .inl h
        · exact .inr (.inr (.inr (.inr h))))
      simp only [add_mk, Nat.zero_add] at hc3 hc2 hc1
      have HLI := Lib.hid (lies_any (ha4.below ((Below.refl _ w4).drew)) HMK.out (by decide) (hsn.trans HNI.out) (by decide) _ hrw)
      have HC3 := Lib.hid hc3
      have HC2 := Lib.hid hc2
      have HC1 := Lib.hid hc1
      have HBE := Lib.hid (HBW.out.trans (HD4.out.bel.mono HBW.out.size))
      clear hb4 ha4 hsn hR4 hc3 hc2 hc1 hrw HD4 HD3 HQ0 HQ1 HQ2 HQ3 HBA HHO HCH HNI HMK HRI HSU HXI HBI HWS HR
      go_wp2
      go_loop [17, 18] (fun n i => ∃ j : Nat, j ≤ N ∧ i = .int .i64 j ∧ n = .int .i64 (J.lastIx (ws.take j) KK : Nat)) (fun _ i => N - (intOf i).toNat)
      case atStart => exact ⟨0, Nat.zero_le _, rfl, rfl⟩
      case round =>
        obtain ⟨j, hj, rfl, rfl⟩ := hrel
        by_cases hlt : j < N
        · have hjw : j < ws.length := by rw [HWSL.out]; exact hlt
          have hcell := HC3.out j hjw
          have HSN := Lib.hid (show J.lastIx (ws.take (j + 1)) KK = if ws[j] ≤ KK then j else J.lastIx (ws.take j) KK by
            rw [List.take_succ_eq_append_getElem hjw, J.lastIx_snoc, List.length_take_of_le (Nat.le_of_lt hjw)])
          generalize ws[j] = y at hcell HSN
          generalize J.lastIx (ws.take j) KK = z at HSN
          by_cases hy : y ≤ KK
          · have hy' : (y : Int) ≤ (KK : Int) := by omega
            go_wp2
            go_round
            case rel => exact ⟨j + 1, hlt, by go_num, by rw [HSN.out, if_pos hy]⟩
            case measure => simp [intOf]; omega
          · have hy' : ¬ (y : Int) ≤ (KK : Int) := by omega
            go_wp2
            go_round
            case rel => exact ⟨j + 1, hlt, by go_num, by rw [HSN.out, if_neg hy]⟩
            case measure => simp [intOf]; omega
        · obtain rfl : j = N := by omega
          rw [List.take_of_length_le (by rw [HWSL.out]; exact Nat.le_refl _), HIX.out]
          go_upto_region 26 with fail
          refine wp_region_pm 9 (.rd 0 (.rd 1 (.rd 2 (.rd 3 (.rd 4 (.rd 5 (.rd 6 (.rd 7 (.rd 8 .fin))))))))) (fun w' => w'.cell? ⟨g2, i, none⟩ = some (.bool mi.there) ∧ w'.cell? ⟨g1, i, none⟩ = some (.slice Avi nvi cvi)) (by kernel_rfl) (by kernel_rfl) (fun c a d v w h => by cases d <;> exact h) ⟨HC2.out, HC1.out⟩ ?_
          have HBD := Lib.hid (HBE.out.drew)
          clear HC3 HC2 HC1 HBE
          generalize w4.drew = wd at HLI HBD ⊢
          repeat
            refine wpPm_read (v := ?_) (by rfl) (by rfl) (fun w' hS => ?_) (fun K hK => ?_)
            rotate_left
            · obtain ⟨hs1, hs2⟩ := hS
              go_simp
              try with_reducible rfl
            go_simp
            refine hK _ ?_
            clear hK K
          show wpList _ _ _ _ _ _
          go_wp2_with fail
          refine HLI.out.mono ?_
          rintro e w5 ⟨rfl, hb5⟩
          have HB5 := Lib.hid (HBD.out.trans (hb5.mono HBD.out.size))
          clear hb5 HLI HBD
          go_wp2_with fail
          refine (HL.out _).mono ?_
          rintro e w6 ⟨rfl, hb6⟩
          have HB6 := Lib.hid (HB5.out.trans (hb6.mono HB5.out.size))
          clear hb6 HL
          go_wp2
          go_ret
          exact ⟨rfl, HB6.out⟩
end Go.Proofs.YtjbepnkchoaipaaGreat
/- Law 31, RelativesKnown, the plain half: the greatest number. -/
namespace Go.Proofs.YtjbepnkchoaipaaGreat
namespace R
abbrev kn0 : M := ⟨true, 4096, false, [], 0, 0, 0⟩
abbrev kn1 : M := ⟨true, 4096, true, [], 2, 1, 0⟩
abbrev kn2 (z : B) : M := ⟨true, 4096, true, [(65536, z)], 2, 1, 0⟩
abbrev kn3 (z : B) : M := ⟨true, 4096, true, [(7, [1]), (65536, z)], 2, 1, 0⟩
theorem kn_open : kn0.open 2 = (kn1, [48, 48]) := rfl
theorem kn_chk : chk [52, 56] true 2 3 true 2 = [48, 48] := rfl
theorem kn_chk2 : chk [52, 56] false 2 4 true 2 = [48, 48] := rfl
theorem kn_write (z : B) (hz : z.length = 4096) : kn1.write 65536 z = (kn2 z, [48, 48]) := by
  unfold M.write
  rw [if_neg (by show ¬ chk [52, 56] true 2 3 true 2 ≠ good; rw [kn_chk]; exact fun h => h rfl), if_neg (by rw [hz]; decide), if_neg (by decide)]
  rfl
theorem kn_full (z : B) (k : Int) (hk : k < 1 ∨ 65536 < k) : (kn2 z).write k [1] = (kn2 z, [50, 52]) := by
  unfold M.write
  rw [if_neg (by show ¬ chk [52, 56] true 2 3 true 2 ≠ good; rw [kn_chk]; exact fun h => h rfl), if_neg (by show ¬ ¬ (0 < 1 ∧ 1 ≤ 4096); decide), if_pos hk]
theorem kn_long (z y : B) (hy : y.length = 4097) : (kn2 z).write 5 y = (kn2 z, [52, 52]) := by
  unfold M.write
  rw [if_neg (by show ¬ chk [52, 56] true 2 3 true 2 ≠ good; rw [kn_chk]; exact fun h => h rfl), if_pos (by rw [hy]; show ¬ (0 < 4097 ∧ 4097 ≤ 4096); decide)]
theorem kn_append (z : B) : (kn2 z).append [1] = (kn2 z, 0, [50, 52]) := by
  unfold M.append
  rw [if_neg (by show ¬ chk [52, 56] false 2 4 true 2 ≠ good; rw [kn_chk2]; exact fun h => h rfl), if_neg (by show ¬ ¬ (0 < 1 ∧ 1 ≤ 4096); decide), if_pos (by show 65536 < 65536 + 1; decide)]
theorem kn_seven (z : B) : (kn2 z).write 7 [1] = (kn3 z, [48, 48]) := by
  unfold M.write
  rw [if_neg (by show ¬ chk [52, 56] true 2 3 true 2 ≠ good; rw [kn_chk]; exact fun h => h rfl), if_neg (by show ¬ ¬ (0 < 1 ∧ 1 ≤ 4096); decide), if_neg (by decide)]
  rfl
theorem kn_look (z : B) : look (kn2 z).rows 7 = none := rfl
end R
end Go.Proofs.YtjbepnkchoaipaaGreat
/- Law 31: RelativesKnown: a row of acts of the law's own. -/
namespace Go.Proofs.YtjbepnkchoaipaaGreat
open Go.RowKit Go.Lib Go.Maps Go.WideMaps Go.Sort
set_option maxRecDepth 100000
theorem Tryz.infoAct : (Tryz.prog.info? 54).map (fun i => (i.zero, i.size, i.bytes)) = some (some (.agg #[.int .u8 0, .int .u16 0, .slice none 0 0]), 3, 32) := by kernel_rfl
def acCells (L : List R.Ac) (vs : List Value) : List Value := (L.zip vs).flatMap fun p => [.int .u8 p.1.what, .int .u16 p.1.n, p.2]
theorem acCells_snoc (L : List R.Ac) (vs : List Value) (c : R.Ac) (v : Value) (h : vs.length = L.length) : acCells (L ++ [c]) (vs ++ [v]) = acCells L vs ++ [.int .u8 c.what, .int .u16 c.n, v] := by
  unfold acCells
  rw [List.zip_append h.symm, List.flatMap_append]
  rfl
theorem ac_cells {L : List R.Ac} {vs : List Value} : ∀ {i : Nat} (hi : i < L.length) (hi' : i < vs.length), (acCells L vs)[i * 3]? = some (.int .u8 L[i].what) ∧ (acCells L vs)[i * 3 + 1]? = some (.int .u16 L[i].n) ∧ (acCells L vs)[i * 3 + 2]? = some vs[i] := by
  induction L generalizing vs with
  | nil => intro i hi; cases hi
  | cons c t ih =>
    intro i hi hi'
    cases vs with
    | nil => cases hi'
    | cons x vs =>
      have e : acCells (c :: t) (x :: vs) = .int .u8 c.what :: .int .u16 c.n :: x :: acCells t vs := rfl
      rw [e]
      cases i with
      | zero => exact ⟨rfl, rfl, rfl⟩
      | succ i =>
        obtain ⟨a, b, d⟩ := ih (vs := vs) (i := i) (by simpa using hi) (by simpa using hi')
        refine ⟨?_, ?_, ?_⟩
        · rw [show (i + 1) * 3 = i * 3 + 1 + 1 + 1 by omega]; simpa using a
        · rw [show (i + 1) * 3 + 1 = i * 3 + 1 + 1 + 1 + 1 by omega]; simpa using b
        · rw [show (i + 1) * 3 + 2 = i * 3 + 2 + 1 + 1 + 1 by omega]; simpa using d
theorem ac_set {L : List R.Ac} {vs : List Value} : ∀ {i : Nat} (hi : i < L.length) (hi' : i < vs.length) (c : R.Ac) (x : Value), (((acCells L vs).set (i * 3) (.int .u8 c.what)).set (i * 3 + 1) (.int .u16 c.n)).set (i * 3 + 2) x = acCells (L.set i c) (vs.set i x) := by
  induction L generalizing vs with
  | nil => intro i hi; cases hi
  | cons d t ih =>
    intro i hi hi' c x
    cases vs with
    | nil => cases hi'
    | cons y vs =>
      have e : acCells (d :: t) (y :: vs) = .int .u8 d.what :: .int .u16 d.n :: y :: acCells t vs := rfl
      rw [e]
      cases i with
      | zero => rfl
      | succ i =>
        have := ih (vs := vs) (i := i) (by simpa using hi) (by simpa using hi') c x
        rw [show (i + 1) * 3 = i * 3 + 1 + 1 + 1 by omega, show i * 3 + 1 + 1 + 1 + 1 = i * 3 + 1 + 1 + 1 + 1 by rfl, show i * 3 + 1 + 1 + 1 + 2 = i * 3 + 2 + 1 + 1 + 1 by omega]
        simp only [List.set_cons_succ]
        rw [this]
        rfl
/-- A row of acts of one's own. -/
def AcsR (w : World) (base : Nat) (v : Value) (L : List R.Ac) : Prop :=
  ∃ vs : List Value, vs.length = L.length ∧ w.ownsRow base 54 3 v L.length (acCells L vs) ∧ ∀ i (h : i < L.length) (h' : i < vs.length), Sl w (fun k => k < base ∨ v.ownBlock = some k) vs[i] L[i].val
/-- Small acts. -/
def AcsOk (L : List R.Ac) : Prop := ∀ a ∈ L, a.what < 256 ∧ a.n < 65536 ∧ a.val.length ≤ 7
theorem AcsOk.units {L : List R.Ac} (h : AcsOk L) : R.units L = L.length := by
  unfold R.units
  induction L with
  | nil => rfl
  | cons a t ih =>
    have h1 := (h a List.mem_cons_self).2.2
    have h2 := ih (fun x hx => h x (List.mem_cons_of_mem _ hx))
    simp only [List.map_cons, List.sum_cons, List.length_cons, h2]
    omega
theorem AcsOk.snoc {L : List R.Ac} (h : AcsOk L) {a : R.Ac} (ha : a.what < 256 ∧ a.n < 65536 ∧ a.val.length ≤ 7) : AcsOk (L ++ [a]) := fun x hx => by
  rcases List.mem_append.1 hx with hx | hx
  · exact h x hx
  · rw [List.mem_singleton.1 hx]; exact ha
theorem AcsOk.set {L : List R.Ac} (h : AcsOk L) {a : R.Ac} (i : Nat) (ha : a.what < 256 ∧ a.n < 65536 ∧ a.val.length ≤ 7) : AcsOk (L.set i a) := fun x hx => by
  rcases List.mem_or_eq_of_mem_set hx with hx | rfl
  · exact h x hx
  · exact ha
section
variable {w w' : World} {base : Nat} {v v' : Value} {L : List R.Ac}
theorem AcsR.below (h : AcsR w base v L) (hb : Below w.heap.size w w') : AcsR w' base v L := by
  obtain ⟨vs, h1, h2, h3⟩ := h
  exact ⟨vs, h1, own_same h2 (fun k hk => hb.block k (h2.lt k hk).2), fun i hi hi' => (h3 i hi hi').step (Step.of_below hb)⟩
theorem AcsR.acts (h : AcsR w base v L) (ho : AcsOk L) (hn : 0 < L.length) : ∃ g c, v = .slice (some ⟨g, 0, none⟩) L.length c ∧ ActsAt w NoM (some ⟨g, 0, none⟩) L ∧ base ≤ g ∧ g < w.heap.size := by
  obtain ⟨vs, h1, h2, h3⟩ := h
  have hc := fun (g : Nat) (hg : v.ownBlock = some g) => h2.cells (g := g) hg
  have hlt := h2.lt
  rcases h2.2 with ⟨_, h0⟩ | ⟨g, c, cur, rfl, hb, hg, _⟩
  · omega
  refine ⟨g, c, rfl, fun _ => ⟨g, 0, rfl, (hlt g rfl).2, fun h => h, fun i hi => ?_⟩, hb, (hlt g rfl).2⟩
  obtain ⟨c0, c1, c2⟩ := ac_cells (vs := vs) hi (by omega)
  have q0 := hc g rfl _ _ c0
  have q1 := hc g rfl _ _ c1
  have q2 := hc g rfl _ _ c2
  rw [add_mk] at q0 q1 q2
  have hok := ho _ (List.getElem_mem hi)
  exact ⟨q0, by rw [Nat.add_assoc]; exact q1, ⟨vs[i], by rw [Nat.add_assoc]; exact q2, (h3 i hi (by omega)).weak (fun _ h => h.elim)⟩, hok.1, hok.2.1⟩
/-- The row grows. -/
theorem AcsR.snoc {vs : List Value} (h1 : vs.length = L.length) (h2 : w.ownsRow base 54 3 v L.length (acCells L vs)) (h3 : ∀ i (h : i < L.length) (h' : i < vs.length), Sl w (fun k => k < base ∨ v.ownBlock = some k) vs[i] L[i].val)
    (hbs : base ≤ w.heap.size) {W : World} (hb : Below w.heap.size w W) {c : R.Ac} {x : Value} (hx : Sl W (fun k => k < w.heap.size) x c.val)
    (hown : w'.ownsRow base 54 3 v' (L.length + 1) (acCells L vs ++ [.int .u8 c.what, .int .u16 c.n, x]))
    (hg : W.grownBy w' v.ownBlock) (hl : v'.ownBlock = v.ownBlock ∨ v'.ownBlock = some W.heap.size) : AcsR w' base v' (L ++ [c]) := by
  have hlt : ∀ k, v.ownBlock = some k → k < w.heap.size := fun k hk => (h2.lt k hk).2
  have hst : Step (fun k => k < base ∨ v.ownBlock = some k) (fun k => k < base ∨ v'.ownBlock = some k) W w' := by
    refine ⟨hg.os, hg.tape, hg.output, hg.size, fun k hk hn => hg.block k hk (fun e => hn (.inr e.symm)), fun k hk hm => ?_⟩
    rcases hm with hm | hm
    · exact .inl hm
    · rcases hl with e | e
      · rw [← e]; exact .inr hm
      · rw [hm] at e; injection e with e; omega
  refine ⟨vs ++ [x], by simp [h1], ?_, fun i hi hi' => ?_⟩
  · rw [acCells_snoc _ _ _ _ h1, List.length_append, List.length_singleton]
    exact hown
  · by_cases hi2 : i < L.length
    · rw [List.getElem_append_left hi2, List.getElem_append_left (by omega)]
      exact ((h3 i hi2 (by omega)).step (Step.of_below hb)).step hst
    · obtain rfl : i = L.length := by rw [List.length_append, List.length_singleton] at hi; omega
      rw [List.getElem_append_right (Nat.le_refl _), List.getElem_append_right (by omega)]
      simp only [Nat.sub_self, List.getElem_singleton]
      refine Sl.step ?_ hst
      exact hx.weak (fun k hk => by
        rcases hk with hk | hk
        · omega
        · exact hlt k hk)
/-- A block ahead of the row turns. -/
theorem AcsR.turn (h : AcsR w base v L) {b : Nat} (hb : b < base) (hg : w.grownBy w' (some b)) : AcsR w' base v L := by
  obtain ⟨vs, h1, h2, h3⟩ := h
  refine ⟨vs, h1, own_same h2 (fun k hk => hg.block k (h2.lt k hk).2 (fun e => by have := (h2.lt k hk).1; injection e with e; omega)), fun i hi hi' => (h3 i hi hi').step ⟨hg.os, hg.tape, hg.output, hg.size, fun k hk hn => hg.block k hk (fun e => hn (by injection e with e; exact .inl (by omega))), fun k _ hm => hm⟩⟩
/-- An act is stored. -/
theorem AcsR.stored (h : AcsR w base v L) {g c : Nat} (hv : v = .slice (some ⟨g, 0, none⟩) L.length c) {i : Nat} (hi : i < L.length) (a : R.Ac) (x : Value) (hx : ∀ (W : World) M, Sl W M x a.val) :
    AcsR (((w.setCell ⟨g, i * 3, none⟩ (.int .u8 a.what)).setCell ⟨g, i * 3 + 1, none⟩ (.int .u16 a.n)).setCell ⟨g, i * 3 + 2, none⟩ x) base v (L.set i a) ∧
      w.grownBy (((w.setCell ⟨g, i * 3, none⟩ (.int .u8 a.what)).setCell ⟨g, i * 3 + 1, none⟩ (.int .u16 a.n)).setCell ⟨g, i * 3 + 2, none⟩ x) (some g) := by
  obtain ⟨vs, h1, h2, h3⟩ := h
  subst hv
  obtain ⟨a1, b1⟩ := World.ownsRow.stored h2 (i * 3) (.int .u8 a.what)
  obtain ⟨a2, b2⟩ := World.ownsRow.stored a1 (i * 3 + 1) (.int .u16 a.n)
  obtain ⟨a3, b3⟩ := World.ownsRow.stored a2 (i * 3 + 2) x
  have hg := (b1.trans b2).trans b3
  rw [ac_set hi (by omega)] at a3
  refine ⟨⟨vs.set i x, by simp [h1], by rw [List.length_set]; exact a3, fun j hj hj' => ?_⟩, hg⟩
  have hst : Step (fun k => k < base ∨ (Value.slice (some ⟨g, 0, none⟩) L.length c).ownBlock = some k) (fun k => k < base ∨ (Value.slice (some ⟨g, 0, none⟩) L.length c).ownBlock = some k) w (((w.setCell ⟨g, i * 3, none⟩ (.int .u8 a.what)).setCell ⟨g, i * 3 + 1, none⟩ (.int .u16 a.n)).setCell ⟨g, i * 3 + 2, none⟩ x) :=
    ⟨hg.os, hg.tape, hg.output, hg.size, fun k hk hn => hg.block k hk (fun e => hn (by injection e with e; simp [Value.ownBlock, e])), fun k hk hm => hm⟩
  rw [List.length_set] at hj hj'
  by_cases e : i = j
  · subst e
    rw [List.getElem_set_self, List.getElem_set_self]
    exact hx _ _
  · rw [List.getElem_set_ne e, List.getElem_set_ne e]
    exact (h3 j (by omega) hj').step hst
end
/-- New bytes. -/
def zer (n : Nat) : J.B := List.replicate n 0
theorem zer_len (n : Nat) : (zer n).length = n := by simp [zer]
theorem zer_cells (n : Nat) : madeCells #[(.int .u8 0 : Value)] n = (u8s (zer n)).toArray := by
  unfold madeCells u8s zer
  apply Array.ext
  · simp
  · intro i h1 h2
    simp [Nat.mod_one]
theorem zer_run (n : Nat) (hn : n ≤ 100000) (W : World) : (Instr.makeSlice 37 (.int .i64 (n : Nat)) (.int .i64 (n : Nat))).run Tryz.prog W = .ok (.slice (some ⟨W.heap.size, 0, none⟩) n n) (W.alloc (.cells (u8s (zer n)).toArray 5)) := by
  obtain ⟨i0, hi, hz0, hz1, hz2⟩ := info_parts Tryz.infoB
  have h := run_makeSlice (P := Tryz.prog) W 37 5 i0 _ Tryz.underlying37 hi hz0 .i64 .i64 n n (by omega) (Int.le_refl _) (by rw [hz1]; omega) (by rw [hz2]; omega) (by omega)
  rw [hz1] at h
  simp only [Int.toNat_natCast, Nat.mul_one] at h
  have e : (Value.int .u8 0).cells = #[(.int .u8 0 : Value)] := rfl
  rw [e, zer_cells] at h
  exact h
theorem zer_sl {W : World} {M : Nat → Prop} {g n : Nat} {o : Nat × Nat} (h : W.heap[g]? = some (.cells (u8s (zer n)).toArray 5 o)) (hM : ¬ M g) : Sl W M (.slice (some ⟨g, 0, none⟩) n n) (zer n) := by
  have hl := (Array.getElem?_eq_some_iff.1 h).1
  have hl : g < W.heap.size := hl
  refine .inr ⟨g, 0, n, by rw [zer_len], by rw [zer_len]; exact Nat.le_refl _, hl, rfl, fun _ => ⟨g, 0, rfl, hl, hM, fun j hj => ?_⟩⟩
  rw [cell_of_row W g (0 + j) _ _ _ h, Nat.zero_add]
  unfold u8s
  simp [hj]
theorem act_one (a b : Int) (A : Option Addr) (l c : Nat) : ∀ u ∈ [(Value.int .u8 a), .int .u16 b, .slice A l c], u.oneCell' = true := fun u hu => by
  simp only [List.mem_cons, List.not_mem_nil, or_false] at hu
  rcases hu with rfl | rfl | rfl <;> rfl
theorem act_new (W : World) (a b x : Value) : ∀ j u, [a, b, x][j]? = some u → (W.alloc (.cells #[a, b, x] 54)).cell? ((⟨W.heap.size, 0, none⟩ : Addr).add j) = some u := by
  intro j u h
  rw [add_mk, cell_of_row _ W.heap.size (0 + j) _ _ _ (heap_alloc_new W _), Nat.zero_add]
  match j, h with
  | 0, h => exact h
  | 1, h => exact h
  | 2, h => exact h
  | j + 3, h => cases h
end Go.Proofs.YtjbepnkchoaipaaGreat
/- Law 31: Write while a transaction is open. -/
namespace Go.Proofs.YtjbepnkchoaipaaGreat
open Go.RowKit Go.Lib Go.Maps Go.WideMaps Go.Sort
set_option maxRecDepth 100000
section
variable {w0 : World} {p pf : Nat} {nm : J.B} {rel : Bool} {size mode nxt last : Nat} {w : World} {s s1 s2 : J.St} {fs : List (Nat × Obj)}
theorem fput_open (h : At w0 p fs s w) (hf : (pf, fileO p nm rel size mode nxt last) ∈ fs) (ho : s.opn = true) (n : Nat) (A : Option Addr) (l c : Nat) :
    Calls Tryz.prog 44 #[.pointer (some ⟨pf, 0, none⟩), .int .i64 (n : Nat), .slice A l c] w fun e w' => e = .returned (.string ⟨#[51, 48]⟩) ∧ At w0 p fs s w' := by
  have h3 := ((h.more (.cells #[.pointer (some ⟨pf, 0, none⟩)] 27)).more (.cells #[.int .i64 (n : Nat)] 3)).more (.cells #[.slice A l c] 37)
  rw [World.size_alloc, World.size_alloc] at h3
  have HU := Lib.hid (fun f => update_open h3 (List.mem_cons_of_mem _ (List.mem_cons_of_mem _ (List.mem_cons_of_mem _ hf))) ho f)
  have H1 := Lib.hid (h3.less (gs := fs) (fun x hx => List.mem_cons_of_mem _ (List.mem_cons_of_mem _ (List.mem_cons_of_mem _ hx))))
  clear h h3 hf
  go_enter Tryz.func44, Tryz.ntmps44
  go_wp2_with fail
  refine (HU.out _).mono ?_
  rintro e w1 ⟨rfl, rfl⟩
  clear HU
  go_wp2
  go_ret
  exact ⟨rfl, H1.out⟩
theorem write_tx (h : At w0 p ((pf, fileO p nm rel size mode nxt last) :: fs) s w) (hf : ∀ x ∈ fs, x.1 ≠ pf) (ht : J.Two s) (ho : s.opn = true) (n : Nat) (A : Option Addr) (l c : Nat) (hl : 0 < l ∧ l ≤ size) (h1 : 1 ≤ n) (h2 : n ≤ 65536) (hnm : nm.length ≤ 100) (hlk : J.look s.now (R.key nm n) = none)
    (hs : chk [52, 56] true 2 3 rel mode = [48, 48]) :
    Calls Tryz.prog 23 #[.pointer (some ⟨pf, 0, none⟩), .int .i64 (n : Nat), .slice A l c] w fun e w' => e = .returned (.string ⟨#[51, 48]⟩) ∧ At w0 p ((pf, fileO p nm rel size mode nxt 0) :: fs) s w' := by
  have hrow := h.get List.mem_cons_self
  have hck := fcheck_any (wrong := [52, 56]) (need := true) (a := 2) (b := 3) hrow
  rw [hs] at hck
  have HCK := Lib.hid hck
  have hA := file_one h hf ht 0
  have HFI := Lib.hid (fits_any (hA.get List.mem_cons_self) A l c)
  rw [decide_eq_true hl] at HFI
  have HRC := Lib.hid (frecord_any hA List.mem_cons_self (n : Nat) hnm (by rw [num32_nat (by omega), hlk]; intro l' e; cases e))
  rw [num32_nat (by omega), hlk] at HRC
  have HPU := Lib.hid (fun w2 (ha : At w0 p ((pf, fileO p nm rel size mode nxt 0) :: fs) s w2) => fput_open ha List.mem_cons_self ho n A l c)
  have hc := fun j => cell_of_row w pf j _ _ _ hrow
  have hz := frozen_row hrow
  have n1 : ¬ (n : Int) < 1 := by omega
  have n2 : ¬ (65536 : Int) < (n : Int) := by omega
  clear h hf ht hs hck hA hl hlk
  go_enter Tryz.func23, Tryz.ntmps23
  go_wp2_with fail
  refine HCK.out.mono ?_
  rintro e w1 ⟨rfl, rfl⟩
  clear HCK
  go_wp2_with fail
  refine HFI.out.mono ?_
  rintro e w2 ⟨rfl, hw⟩
  clear HFI
  subst hw
  go_wp2_with fail
  refine HRC.out.mono ?_
  rintro e w3 ⟨v, rfl, _, ha, _⟩
  have HPW := Lib.hid (HPU.out w3 ha)
  clear ha HRC HPU hc hz
  go_wp2_with fail
  refine HPW.out.mono ?_
  rintro e w4 ⟨rfl, h4⟩
  have H4 := Lib.hid h4
  clear h4 HPW
  go_wp2
  go_ret
  exact ⟨rfl, H4.out⟩
end
section
variable {w0 : World} {p pf : Nat} {nm : J.B} {u : Nat} {fs : List (Nat × Obj)} {m m' : R.M} {w w' : World}
/-- A file while a transaction is open in which nothing was done. -/
def KT (w0 : World) (p pf : Nat) (nm : J.B) (u : Nat) (fs : List (Nat × Obj)) (m : R.M) (w : World) : Prop :=
  ∃ s L, At w0 p ((pf, fileO p nm m.rel m.size m.mode m.next m.last) :: fs) (J.begin_ s) w ∧ R.Kp nm u m L s ∧ (∀ x ∈ fs, x.1 ≠ pf) ∧ nm.length ≤ 3
theorem KT.below (h : KT w0 p pf nm u fs m w) (hb : Below w.heap.size w w') : KT w0 p pf nm u fs m w' := by
  obtain ⟨s, L, h1, h2⟩ := h
  exact ⟨s, L, h1.below hb, h2⟩
theorem make_run (n : Nat) (hn : n ≤ 100000) (W : World) : ∃ z : J.B, z.length = n ∧ (Instr.makeSlice 37 (.int .i64 (n : Nat)) (.int .i64 (n : Nat))).run Tryz.prog W = .ok (.slice (some ⟨W.heap.size, 0, none⟩) n n) (W.alloc (.cells (u8s z).toArray 5)) :=
  ⟨zer n, zer_len n, zer_run n hn W⟩
theorem x_begin (h : KX w0 p pf nm u fs m w) : Calls Tryz.prog 24 #[.pointer (some ⟨p, 0, none⟩)] w fun e w' => e = .returned (.int .i64 0) ∧ KT w0 p pf nm u fs m w' := by
  obtain ⟨L, s, h1, h2, h3, h4⟩ := h
  refine (at_begin h1 h2.sto.opn).mono ?_
  rintro e w' ⟨rfl, ha⟩
  exact ⟨rfl, s, L, ha, h2, h3, h4⟩
theorem x_write_tx (h : KT w0 p pf nm u fs m w) (n : Nat) (A : Option Addr) (l c : Nat) (hl : 0 < l ∧ l ≤ m.size) (h1 : 1 ≤ n) (h2 : n ≤ 65536) (hlk : R.look m.rows n = none) (hs : chk [52, 56] true 2 3 m.rel m.mode = [48, 48]) :
    Calls Tryz.prog 23 #[.pointer (some ⟨pf, 0, none⟩), .int .i64 (n : Nat), .slice A l c] w fun e w' => e = .returned (.string ⟨#[51, 48]⟩) ∧ KT w0 p pf nm (u + 1) fs { m with last := 0 } w' := by
  obtain ⟨s, L, ha, hk, hf, hn⟩ := h
  have hlk2 : J.look s.now (R.key nm n) = none := by rw [hk.sto.now, R.map_look hk.mok (by omega)]; exact hlk
  refine (write_tx ha hf ?_ rfl n A l c hl h1 h2 (by omega) hlk2 hs).mono ?_
  · have := hk.sto.two
    exact ⟨this.1, this.2, this.3⟩
  rintro e w' ⟨rfl, h'⟩
  refine ⟨rfl, s, L, h', ?_, hf, hn⟩
  exact hk.same (R.ok_last0 hk.mok) rfl
theorem x_abandon_tx (h : KT w0 p pf nm u fs m w) : Calls Tryz.prog 25 #[.pointer (some ⟨p, 0, none⟩)] w fun e w' => e = .returned (.int .i64 0) ∧ KX w0 p pf nm u fs m w' := by
  obtain ⟨s, L, ha, hk, hf, hn⟩ := h
  refine (at_abandon ha rfl).mono ?_
  rintro e w' ⟨rfl, h'⟩
  exact ⟨rfl, L, _, h', hk.idle, hf, hn⟩
end
end Go.Proofs.YtjbepnkchoaipaaGreat
/- Law 31: RelativesKnown returns true. -/
namespace Go.Proofs.YtjbepnkchoaipaaGreat
open Go.RowKit Go.Lib Go.Maps Go.WideMaps Go.Sort
set_option maxRecDepth 100000
abbrev sObj (r : Bool) (z : Nat) (v : Value) : Obj := .cells #[.bool r, .int .u8 z, v] 46
/-- The acts behind a script. -/
def KnJ (w : World) (b3 : Nat) (v : Value) (i : Nat) (r : Bool) (z : Nat) (W : World) : Prop :=
  Below w.heap.size w W ∧ w.heap.size ≤ b3 ∧ ∃ L, L.length = i ∧ AcsOk L ∧ W.heap[b3]? = some (sObj r z v) ∧ AcsR W (b3 + 1) v L
theorem KnJ.below {w : World} {b3 : Nat} {v : Value} {i : Nat} {r : Bool} {z : Nat} {W W' : World} (h : KnJ w b3 v i r z W) (hb : Below W.heap.size W W') : KnJ w b3 v i r z W' := by
  obtain ⟨h1, h2, L, h3, h4, h5, h6⟩ := h
  exact ⟨h1.trans (hb.mono h1.size), h2, L, h3, h4, (hb.block b3 (Array.getElem?_eq_some_iff.1 h5).1).trans h5, h6.below hb⟩
theorem KnJ.row {w : World} {b3 : Nat} {v : Value} {i : Nat} {r : Bool} {z : Nat} {W : World} (h : KnJ w b3 v i r z W) : W.heap[b3]? = some (sObj r z v) := by
  obtain ⟨h1, h2, L, h3, h4, h5, h6⟩ := h
  exact h5
theorem KnJ.acts {w : World} {b3 : Nat} {v : Value} {i : Nat} {r : Bool} {z : Nat} {W : World} (h : KnJ w b3 v i r z W) (hi : 0 < i) : ∃ g c L, v = .slice (some ⟨g, 0, none⟩) i c ∧ L.length = i ∧ R.units L = i ∧ ActsAt W NoM (some ⟨g, 0, none⟩) L := by
  obtain ⟨h1, h2, L, h3, h4, h5, h6⟩ := h
  obtain ⟨g, c, e, ha, _⟩ := h6.acts h4 (by omega)
  exact ⟨g, c, L, by rw [e, h3], h3, by rw [h4.units, h3], ha⟩
theorem KnJ.cells {w : World} {b3 : Nat} {g c N : Nat} {r : Bool} {z : Nat} {W : World} (h : KnJ w b3 (.slice (some ⟨g, 0, none⟩) N c) N r z W) {i : Nat} (hi : i < N) :
    (∃ x, W.cell? ⟨g, i * 3, none⟩ = some x) ∧ (∃ x, W.cell? ⟨g, i * 3 + 1, none⟩ = some x) ∧ (∃ x, W.cell? ⟨g, i * 3 + 2, none⟩ = some x) ∧ ∃ cur, W.heap[g]? = some (.cells cur 54 (0, 0)) := by
  obtain ⟨h1, h2, L, h3, h4, h5, vs, h6, h7, h8⟩ := h
  obtain ⟨c0, c1, c2⟩ := ac_cells (L := L) (vs := vs) (i := i) (by omega) (by omega)
  have q0 := h7.cells (g := g) rfl _ _ c0
  have q1 := h7.cells (g := g) rfl _ _ c1
  have q2 := h7.cells (g := g) rfl _ _ c2
  rw [add_mk, Nat.zero_add] at q0 q1 q2
  refine ⟨⟨_, q0⟩, ⟨_, q1⟩, ⟨_, q2⟩, ?_⟩
  rcases h7.2 with ⟨e, _⟩ | ⟨g', c', cur, e, _, hg, _⟩
  · cases e
  · injection e with e
    injection e with e
    injection e with e
    subst e
    exact ⟨cur, hg⟩
theorem KnJ.store {w : World} {b3 : Nat} {g c N : Nat} {r : Bool} {z : Nat} {W : World} (h : KnJ w b3 (.slice (some ⟨g, 0, none⟩) N c) N r z W) {i : Nat} (hi : i < N) (x y : Nat) (hx : x < 256) (hy : y < 65536) :
    KnJ w b3 (.slice (some ⟨g, 0, none⟩) N c) N r z (((W.setCell ⟨g, i * 3, none⟩ (.int .u8 x)).setCell ⟨g, i * 3 + 1, none⟩ (.int .u16 y)).setCell ⟨g, i * 3 + 2, none⟩ (.slice none 0 0)) := by
  obtain ⟨h1, h2, L, h3, h4, h5, h6⟩ := h
  obtain ⟨s1, s2⟩ := h6.stored (g := g) (c := c) (by rw [h3]) (i := i) (by omega) ⟨x, y, []⟩ (.slice none 0 0) (fun _ _ => Sl.nil_)
  have hg : b3 + 1 ≤ g := by
    obtain ⟨vs, _, k, _⟩ := h6
    exact (k.lt g rfl).1
  exact ⟨h1.grown s2 h1.size (fun k e => by injection e with e; omega), h2, L.set i ⟨x, y, []⟩, by rw [List.length_set]; exact h3, h4.set i ⟨hx, hy, Nat.zero_le _⟩, (s2.block b3 (Array.getElem?_eq_some_iff.1 h5).1 (fun e => by injection e with e; omega)).trans h5, s1⟩
/-- What holds at the beginning of a round of the inner loop. -/
def KnI (w : World) (b3 i : Nat) (r : Bool) (z : Nat) (W : World) : Prop :=
  Below w.heap.size w W ∧ w.heap.size ≤ b3 ∧ ∃ v L, L.length = i ∧ AcsOk L ∧ W.heap[b3]? = some (sObj r z v) ∧ AcsR W (b3 + 1) v L
theorem KnI.j {w : World} {b3 i : Nat} {r : Bool} {z : Nat} {W : World} (h : KnI w b3 i r z W) : ∃ v, KnJ w b3 v i r z W := by
  obtain ⟨h1, h2, v, L, h3⟩ := h
  exact ⟨v, h1, h2, L, h3⟩
theorem knI_0 {w W : World} (hb : Below w.heap.size w W) (r : Bool) (z : Nat) : KnI w W.heap.size 0 r z (W.alloc (sObj r z (.slice none 0 0))) :=
  ⟨hb.alloc hb.size _, hb.size, .slice none 0 0, [], rfl, fun _ h => (by cases h), heap_alloc_new W _, [], rfl, World.ownsRow_nil _ _ _ _, fun i h => by cases h⟩
theorem own_lt {w : World} {base n : Nat} {e : TypeId} {sz : Nat} {v : Value} {xs : List Value} (h : w.ownsRow base e sz v n xs) {g : Nat} (hv : v.ownBlock = some g) : base ≤ g ∧ g < w.heap.size := h.lt g hv
set_option maxHeartbeats 4000000 in
theorem known_any (w : World) : Calls Tryz.prog 6 #[] w fun e w' => e = .returned (.bool true) ∧ Below w.heap.size w w' := by
  obtain ⟨i1, hi1, z11, z12, z13⟩ := info_parts Tryz.infoAct
  go_enter Tryz.func6, Tryz.ntmps6
  go_wp2
  go_loopw [1, 2] (fun kv nv W => ∃ n k : Nat, n ≤ 20 ∧ k ≤ 200000 ∧ nv = .int .i64 n ∧ kv = .int .i64 k ∧ Hid (Below w.heap.size w W)) (fun _ nv _ => 20 - (intOf nv).toNat)
  case atStart => exact ⟨0, 1, by decide, by decide, rfl, rfl, Lib.hid (Below.refl _ _)⟩
  case round =>
    obtain ⟨n, k, hn, hk, rfl, rfl, HB⟩ := hrel
    by_cases hlt : n < 20
    · have hlt2 : (n : Int) < 20 := by omega
      have r3 : (n : Int).tmod 3 = ((n % 3 : Nat) : Int) := rfl
      have w8 : (n : Int) % 256 = (n : Int) := by omega
      generalize n % 3 = m3 at r3
      have HI0 := Lib.hid (knI_0 HB.out (decide (0 < m3)) n)
      go_wp2
      generalize wr.alloc (sObj (decide (0 < m3)) n (.slice none 0 0)) = wa at HI0 ⊢
      generalize wr.heap.size = b3 at HI0 ⊢
      clear HB
      go_loopw [1, 4] (fun kv iv W => ∃ i k : Nat, i ≤ 50 ∧ k ≤ 200000 ∧ iv = .int .i64 i ∧ kv = .int .i64 k ∧ Hid (KnI w b3 i (decide (0 < m3)) n W)) (fun _ iv _ => 50 - (intOf iv).toNat)
      case atStart => exact ⟨0, k, by decide, hk, rfl, rfl, HI0⟩
      case round =>
        clear HI0
        obtain ⟨i, k2, hi, hk2, rfl, rfl, HI⟩ := hrel
        by_cases hl3 : i < 50
        · have hl4 : (i : Int) < 50 := by omega
          obtain ⟨hbel, hb3, v, L, hL, hok, hrow, hacs⟩ := HI.out
          have hcb := fun j => cell_of_row wr b3 j _ _ _ hrow
          have c8 : IntKind.u8.wrap (k2 : Int) = ((k2 % 256 : Nat) : Int) := by rw [IntKind.wrap_u8]; rfl
          have q3 : (k2 : Int).tdiv 3 = ((k2 / 3 : Nat) : Int) := rfl
          have q3b : k2 / 3 ≤ 70000 := by omega
          have c16 : IntKind.u16.wrap ((k2 / 3 : Nat) : Int) = ((k2 / 3 % 65536 : Nat) : Int) := by rw [IntKind.wrap_u16]; rfl
          have hw3 : IntKind.i64.wrap ((k2 / 3 : Nat) : Int) = ((k2 / 3 : Nat) : Int) := IntWalk.i64_in _ (by omega)
          have q5 : (k2 : Int).tmod 5 = ((k2 % 5 : Nat) : Int) := rfl
          have b8 : k2 % 256 < 256 := Nat.mod_lt _ (by decide)
          have b5 : k2 % 5 < 5 := Nat.mod_lt _ (by decide)
          have B16 := Lib.hid (show k2 / 3 % 65536 < 65536 from Nat.mod_lt _ (by decide))
          generalize k2 / 3 % 65536 = x16 at c16 B16
          generalize k2 / 3 = x3 at c16 q3 q3b hw3
          generalize k2 % 256 = x8 at c8 b8
          generalize k2 % 5 = x5 at q5 b5
          go_upto_region 9 with fail
          refine wp_region_pm 12 (.rd 0 (.rd 1 (.rd 2 (.rd 3 (.rd 4 (.rd 5 (.rd 6 (.rd 7 (.rd 8 (.wr 9 (.rd 10 (.wr 11 .fin)))))))))))) (fun w' => w'.heap[b3]? = some (sObj (decide (0 < m3)) n v)) (by kernel_rfl) (by kernel_rfl) (fun c a d v w h => by cases d <;> exact h) hrow ?_
          repeat
            refine wpPm_read (v := ?_) (by rfl) (by rfl) (fun w' hS => ?_) (fun K hK => ?_)
            rotate_left
            · have hcq := fun j => cell_of_row w' b3 j _ _ _ hS
              clear hS
              go_simp
              try with_reducible rfl
            go_simp
            refine hK _ ?_
            clear hK K
          refine wpPm_write (by rfl) (fun K hK => ?_)
          go_simp
          rw [zer_run x5 (by omega)]
          go_simp
          have hB1 : Below wr.heap.size wr (wr.alloc (.cells (u8s (zer x5)).toArray 5)).drew := ((Below.refl _ wr).alloc (Nat.le_refl _) (.cells (u8s (zer x5)).toArray 5)).drew
          have hn1 : (wr.alloc (.cells (u8s (zer x5)).toArray 5)).drew.heap[wr.heap.size]? = some (.cells (u8s (zer x5)).toArray 5) := heap_alloc_new wr _
          have hlb3 := (Array.getElem?_eq_some_iff.1 hrow).1
          refine hK.out _ _ (fun w' => w'.heap[b3]? = some (sObj (decide (0 < m3)) n v)) (fun _ h => h) ((hB1.block b3 hlb3).trans hrow) ?_
          clear hK K
          generalize (wr.alloc (.cells (u8s (zer x5)).toArray 5)).drew = w1 at hB1 hn1 ⊢
          have HB1 := Lib.hid hB1
          have HN1 := Lib.hid hn1
          have HRW := Lib.hid ((hB1.block b3 hlb3).trans hrow)
          have HLB := Lib.hid hlb3
          obtain ⟨vs, hv1, hv2, hv3⟩ := hacs
          have HV1 := Lib.hid hv1
          have HV2 := Lib.hid hv2
          have HV3 := Lib.hid hv3
          have HOK := Lib.hid hok
          have HLN := Lib.hid hL
          have HBL := Lib.hid hbel
          have hb3' : w.heap.size ≤ b3 := hb3
          clear hB1 hn1 hcb hv1 hv2 hv3 hok hbel hrow hlb3
          repeat
            refine wpPm_read (v := ?_) (by rfl) (by rfl) (fun w' hS => ?_) (fun K hK => ?_)
            rotate_left
            · clear hS
              go_simp
              try with_reducible rfl
            go_simp
            refine hK _ ?_
            clear hK K
          refine wpPm_write (by rfl) (fun K hK => ?_)
          go_simp
          have hbA : Below w1.heap.size w1 (w1.alloc (.cells #[.int .u8 x8, .int .u16 x16, .slice (some ⟨wr.heap.size, 0, none⟩) x5 x5] 54)) := (Below.refl _ w1).alloc (Nat.le_refl _) _
          have hb3l : b3 < w1.heap.size := Nat.lt_of_lt_of_le HLB.out HB1.out.size
          refine hK.out _ _ (fun w' => w'.heap[b3]? = some (sObj (decide (0 < m3)) n v)) (fun _ h => h) ((hbA.block b3 hb3l).trans HRW.out) ?_
          clear hK K
          have HBA := Lib.hid (HB1.out.trans (hbA.mono HB1.out.size))
          have HOW := Lib.hid (own_same HV2.out (fun k hk => HBA.out.block k (HV2.out.lt k hk).2))
          have HAN := Lib.hid (act_new w1 (.int .u8 x8) (.int .u16 x16) (.slice (some ⟨wr.heap.size, 0, none⟩) x5 x5))
          have HRA := Lib.hid ((hbA.block b3 hb3l).trans HRW.out)
          have HXS := Lib.hid (zer_sl (M := fun k => k < wr.heap.size) ((hbA.block wr.heap.size (Array.getElem?_eq_some_iff.1 HN1.out).1).trans HN1.out) (Nat.lt_irrefl _))
          have hSz : b3 + 1 ≤ (w1.alloc (.cells #[.int .u8 x8, .int .u16 x16, .slice (some ⟨wr.heap.size, 0, none⟩) x5 x5] 54)).heap.size := by rw [World.size_alloc]; omega
          have HSZ := Lib.hid hSz
          have hLL : L.length ≤ 50 := by have := HLN.out; omega
          clear hbA hb3l hSz
          show wpList _ _ _ _ _ _
          refine wpList_append_own_at _ rfl _ _ 44 rfl (b3 + 1) 54 i1 _ 3 32 Tryz.underlying44 hi1 z11 z12 z13 rfl (by decide) v L.length (acCells L vs) rfl HOW.out ⟨w1.heap.size, 0, none⟩ 1 1 [.int .u8 x8, .int .u16 x16, .slice (some ⟨wr.heap.size, 0, none⟩) x5 x5] rfl rfl HAN.out (act_one _ _ _ _ _) (by unfold maxLen; omega) (by omega) HSZ.out ?_
          intro v' w4 hown hg hnil hl
          obtain ⟨A', n', c', rfl⟩ := own_slice hown
          generalize w1.alloc (.cells #[.int .u8 x8, .int .u16 x16, .slice (some ⟨wr.heap.size, 0, none⟩) x5 x5] 54) = wb at HBA HRA HXS hg hl
          have hb3n : ∀ k, v.ownBlock = some k → b3 < k := fun k hk => (HV2.out.lt k hk).1
          have hrow4 : w4.heap[b3]? = some (sObj (decide (0 < m3)) n v) := (hg.block b3 (Array.getElem?_eq_some_iff.1 HRA.out).1 (fun e => by have := hb3n b3 e.symm; omega)).trans HRA.out
          have hac4 := AcsR.snoc (c := ⟨x8, x16, zer x5⟩) HV1.out HV2.out HV3.out HLB.out HBA.out HXS.out hown hg hl
          have hbl4 : Below w.heap.size w w4 := (HBL.out.trans (HBA.out.mono HBL.out.size)).grown hg (Nat.le_trans HBL.out.size HBA.out.size) (fun k e => by have := hb3n k e; omega)
          have hgs := grown_set (World.grownBy.refl w4 (some b3)) 2 (.slice A' n' c')
          have HN := Lib.hid (show KnI w b3 (i + 1) (decide (0 < m3)) n (w4.setCell ⟨b3, 2, none⟩ (.slice A' n' c')) from
            ⟨hbl4.setCell hb3' _, hb3', .slice A' n' c', L ++ [⟨x8, x16, zer x5⟩], by rw [List.length_append, List.length_singleton, HLN.out], HOK.out.snoc ⟨b8, B16.out, by rw [zer_len]; omega⟩, blk_set hrow4 2 (.slice A' n' c'), hac4.turn (Nat.lt_succ_self _) hgs⟩)
          have hc4 := fun j => cell_of_row w4 b3 j _ _ _ hrow4
          have hz4 := frozen_row hrow4
          have hmd : ((k2 : Int) * 31 + 7 * (i : Int) + 11).tmod 100003 = (((k2 * 31 + 7 * i + 11) % 100003 : Nat) : Int) := by
            rw [show (k2 : Int) * 31 + 7 * (i : Int) + 11 = ((k2 * 31 + 7 * i + 11 : Nat) : Int) by omega]; rfl
          have hmb : (k2 * 31 + 7 * i + 11) % 100003 ≤ 200000 := by omega
          generalize (k2 * 31 + 7 * i + 11) % 100003 = k4 at hmd hmb
          clear hown hg hnil hl hb3n hrow4 hac4 hbl4 hgs HBA HRA HXS HOW HAN HSZ HV1 HV2 HV3 HI
          go_wp2
          go_roundw
          case rel => exact ⟨i + 1, k4, by omega, hmb, by go_num, rfl, HN⟩
          case measure => simp [intOf]; omega
        · obtain rfl : i = 50 := by omega
          obtain ⟨v, hj⟩ := HI.out.j
          obtain ⟨g, c, _, hv, _⟩ := hj.acts (by decide)
          subst hv
          have HJ := Lib.hid hj
          clear hj HI
          have hcb := fun j => cell_of_row wr b3 j _ _ _ HJ.out.row
          obtain ⟨⟨x0, hx0⟩, ⟨x1, hx1⟩, ⟨x2, hx2⟩, cur, hcur⟩ := HJ.out.cells (i := 0) (by decide)
          have hx0 : wr.cell? ⟨g, 0, none⟩ = some x0 := hx0
          have hx1 : wr.cell? ⟨g, 1, none⟩ = some x1 := hx1
          have hx2 : wr.cell? ⟨g, 2, none⟩ = some x2 := hx2
          have hzg := frozen_row hcur
          have HJ1 := Lib.hid (show KnJ w b3 (.slice (some ⟨g, 0, none⟩) 50 c) 50 (decide (0 < m3)) n (((wr.setCell ⟨g, 0, none⟩ (.int .u8 0)).setCell ⟨g, 1, none⟩ (.int .u16 2)).setCell ⟨g, 2, none⟩ (.slice none 0 0)) from HJ.out.store (i := 0) (by decide) 0 2 (by decide) (by decide))
          clear hcur
          go_upto_region 12 with fail
          generalize ((wr.setCell ⟨g, 0, none⟩ (.int .u8 0)).setCell ⟨g, 1, none⟩ (.int .u16 2)).setCell ⟨g, 2, none⟩ (.slice none 0 0) = wa1 at HJ1 ⊢
          clear hcb hx0 hx1 hx2 hzg HJ
          have hcb := fun j => cell_of_row wa1 b3 j _ _ _ HJ1.out.row
          obtain ⟨⟨x0, hx0⟩, ⟨x1, hx1⟩, ⟨x2, hx2⟩, cur, hcur⟩ := HJ1.out.cells (i := 7) (by decide)
          have hx0 : wa1.cell? ⟨g, 21, none⟩ = some x0 := hx0
          have hx1 : wa1.cell? ⟨g, 22, none⟩ = some x1 := hx1
          have hx2 : wa1.cell? ⟨g, 23, none⟩ = some x2 := hx2
          have hzg := frozen_row hcur
          have HJ2 := Lib.hid (show KnJ w b3 (.slice (some ⟨g, 0, none⟩) 50 c) 50 (decide (0 < m3)) n (((wa1.setCell ⟨g, 21, none⟩ (.int .u8 2)).setCell ⟨g, 22, none⟩ (.int .u16 0)).setCell ⟨g, 23, none⟩ (.slice none 0 0)) from HJ1.out.store (i := 7) (by decide) 2 0 (by decide) (by decide))
          clear hcur
          go_upto_region 13 with fail
          generalize ((wa1.setCell ⟨g, 21, none⟩ (.int .u8 2)).setCell ⟨g, 22, none⟩ (.int .u16 0)).setCell ⟨g, 23, none⟩ (.slice none 0 0) = wa2 at HJ2 ⊢
          clear hcb hx0 hx1 hx2 hzg HJ1
          have hcb := fun j => cell_of_row wa2 b3 j _ _ _ HJ2.out.row
          obtain ⟨⟨x0, hx0⟩, ⟨x1, hx1⟩, ⟨x2, hx2⟩, cur, hcur⟩ := HJ2.out.cells (i := 8) (by decide)
          have hx0 : wa2.cell? ⟨g, 24, none⟩ = some x0 := hx0
          have hx1 : wa2.cell? ⟨g, 25, none⟩ = some x1 := hx1
          have hx2 : wa2.cell? ⟨g, 26, none⟩ = some x2 := hx2
          have hzg := frozen_row hcur
          have HJ3 := Lib.hid (show KnJ w b3 (.slice (some ⟨g, 0, none⟩) 50 c) 50 (decide (0 < m3)) n (((wa2.setCell ⟨g, 24, none⟩ (.int .u8 0)).setCell ⟨g, 25, none⟩ (.int .u16 3)).setCell ⟨g, 26, none⟩ (.slice none 0 0)) from HJ2.out.store (i := 8) (by decide) 0 3 (by decide) (by decide))
          clear hcur
          go_upto_region 14 with fail
          generalize ((wa2.setCell ⟨g, 24, none⟩ (.int .u8 0)).setCell ⟨g, 25, none⟩ (.int .u16 3)).setCell ⟨g, 26, none⟩ (.slice none 0 0) = wa3 at HJ3 ⊢
          clear hcb hx0 hx1 hx2 hzg HJ2
          have hcb := fun j => cell_of_row wa3 b3 j _ _ _ HJ3.out.row
          obtain ⟨g', c', L, e, hL, hun, hat⟩ := HJ3.out.acts (by decide)
          injection e with e1 e2 e3
          injection e1 with e1
          injection e1 with e1
          subst e1 e3
          have hac := acts31_small (decide (0 < m3)) n (by omega) (some ⟨g, 0, none⟩) c L wa3 hat (by rw [hun]; decide)
          rw [hL] at hac
          have HAC := Lib.hid hac
          have hct := fun (a : Nat) (ha : a ≤ 65535) (w' : World) (hb : Below wa3.heap.size wa3 w') => cut31_small (decide (0 < m3)) n (by omega) (some ⟨g, 0, none⟩) c L a ha w' (hat.below hb) (by rw [hun]; decide)
          rw [hL] at hct
          have HCT := Lib.hid hct
          clear hac hct hL hun hat
          have q16 : k2 % 65536 ≤ 65535 := by omega
          have c16 : IntKind.u16.wrap (k2 : Int) = ((k2 % 65536 : Nat) : Int) := by rw [IntKind.wrap_u16]; rfl
          have d16 : (k2 : Int) % 65536 = ((k2 % 65536 : Nat) : Int) := rfl
          generalize k2 % 65536 = x16 at q16 c16 d16
          have HQ := Lib.hid q16
          clear q16
          go_wp2_with fail
          refine HAC.out.mono ?_
          rintro e w5 ⟨rfl, hb5⟩
          have HJ5 := Lib.hid (HJ3.out.below hb5)
          have hcb := fun j => cell_of_row w5 b3 j _ _ _ HJ5.out.row
          have HCT5 := Lib.hid (HCT.out x16 HQ.out w5 hb5)
          clear hb5 HAC HCT
          go_wp2_with fail
          refine HCT5.out.mono ?_
          rintro e w6 ⟨rfl, hb6⟩
          have HJ6 := Lib.hid (HJ5.out.below hb6)
          have HB6 := Lib.hid HJ6.out.1
          clear hb6 HCT5 hcb
          go_wp2_with fail
          go_roundw
          case rel => exact ⟨n + 1, k2, by omega, hk2, by go_num, rfl, HB6⟩
          case measure => simp [intOf]; omega
    · obtain rfl : n = 20 := by omega
      clear hlt
      go_wp2_with fail
      refine (at_new wr _ (Below.refl _ _)).mono ?_
      rintro e W ⟨p, rfl, h⟩
      have H := Lib.hid h
      clear h
      go_wp2_with fail
      refine (k_new H.out [120] true 4096 (by decide) (by decide) (by decide) (by decide) (by decide)).mono ?_
      rintro e W0 ⟨pf, rfl, h⟩
      have H0 := Lib.hid (kx_of h)
      clear h H
      go_wp2_with fail
      refine (x_open H0.out (by decide) 2 R.kn_open).mono ?_
      rintro e W1 ⟨rfl, h⟩
      have H1 := Lib.hid h
      clear h H0
      obtain ⟨zb, hzb, hmk⟩ := make_run 4096 (by decide) W1
      have hwm := x_write H1.out (by decide) 65536 zb (by intro e; rw [e] at hzb; exact absurd hzb (by decide)) (u8s zb).toArray rfl (o := (0, 0)) (R.kn_write zb hzb)
      rw [hzb] at hwm
      have HWM := Lib.hid hwm
      have hmk : (Instr.makeSlice 37 (.int .i64 4096) (.int .i64 4096)).run Tryz.prog W1 = .ok (.slice (some ⟨W1.heap.size, 0, none⟩) 4096 4096) (W1.alloc (.cells (u8s zb).toArray 5)) := hmk
      clear hzb hwm
      go_wp2_with fail
      refine HWM.out.mono ?_
      rintro e W2 ⟨rfl, h⟩
      have H2 := Lib.hid h
      clear h H1 hmk HWM
      go_wp2_with fail
      refine (x_write H2.out (by decide) 65537 [1] (by decide) _ rfl (R.kn_full zb 65537 (.inr (by decide)))).mono ?_
      rintro e W3 ⟨rfl, h⟩
      have H3 := Lib.hid h
      clear h H2
      go_wp2_with fail
      refine (x_write H3.out (by decide) 0 [1] (by decide) _ rfl (R.kn_full zb 0 (.inl (by decide)))).mono ?_
      rintro e W4 ⟨rfl, h⟩
      have H4 := Lib.hid h
      clear h H3
      obtain ⟨yb, hyb, hmk⟩ := make_run 4097 (by decide) W4
      have hwm := x_write H4.out (by decide) 5 yb (by intro e; rw [e] at hyb; exact absurd hyb (by decide)) (u8s yb).toArray rfl (o := (0, 0)) (R.kn_long zb yb hyb)
      rw [hyb] at hwm
      have HWM := Lib.hid hwm
      have hmk : (Instr.makeSlice 37 (.int .i64 4097) (.int .i64 4097)).run Tryz.prog W4 = .ok (.slice (some ⟨W4.heap.size, 0, none⟩) 4097 4097) (W4.alloc (.cells (u8s yb).toArray 5)) := hmk
      clear hyb hwm
      go_wp2_with fail
      refine HWM.out.mono ?_
      rintro e W5 ⟨rfl, h⟩
      have H5 := Lib.hid h
      clear h H4 hmk HWM
      go_wp2_with fail
      refine (x_append H5.out (by decide) [1] (by decide) _ rfl (R.kn_append zb)).mono ?_
      rintro e W6 ⟨rfl, h⟩
      have H6 := Lib.hid h
      clear h H5
      go_wp2_with fail
      refine (x_begin H6.out).mono ?_
      rintro e W7 ⟨rfl, h⟩
      have H7 := Lib.hid h
      clear h H6
      go_wp2_with fail
      refine (x_write_tx (H7.out.below ((Below.refl _ W7).alloc (Nat.le_refl _) _)) 7 _ 1 1 (by show 0 < 1 ∧ 1 ≤ 4096; decide) (by decide) (by decide) (R.kn_look zb) rfl).mono ?_
      rintro e W8 ⟨rfl, h⟩
      have H8 := Lib.hid h
      clear h H7
      go_wp2_with fail
      refine (x_abandon_tx H8.out).mono ?_
      rintro e W9 ⟨rfl, h⟩
      have H9 := Lib.hid h
      clear h H8
      go_wp2_with fail
      refine (x_write (m := R.kn2 zb) H9.out (by decide) 7 [1] (by decide) _ rfl (R.kn_seven zb)).mono ?_
      rintro e W10 ⟨rfl, h⟩
      have HBE := Lib.hid (HB.out.trans (h.bel.mono HB.out.size))
      clear h H9
      go_wp2_with fail
      refine (lives_any W10).mono ?_
      rintro e W11 ⟨rfl, hb⟩
      have HBF := Lib.hid (HBE.out.trans (hb.mono HBE.out.size))
      clear hb HBE HB
      go_wp2
      go_ret
      exact ⟨rfl, HBF.out⟩
end Go.Proofs.YtjbepnkchoaipaaGreat
