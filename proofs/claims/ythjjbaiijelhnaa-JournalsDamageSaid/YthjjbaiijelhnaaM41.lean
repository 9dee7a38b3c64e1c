import Derived.Test.YthjjbaiijelhnaaM31
import Derived.Test.YthjjbaiijelhnaaM36
import Derived.Test.YthjjbaiijelhnaaM40
set_option linter.unusedVariables false
set_option linter.unusedSimpArgs false
/- Law 30: run. -/
namespace Go.Proofs.Ythjjbaiijelhnaa
open Go.RowKit Go.Lib Go.Maps Go.WideMaps Go.Sort
set_option maxRecDepth 100000
theorem Try.infoPS : (Try.prog.info? 41).map (fun i => (i.zero, i.size, i.bytes)) = some (some (.slice none 0 0), 1, 24) := by kernel_rfl
theorem Try.infoI : (Try.prog.info? 3).map (fun i => (i.zero, i.size, i.bytes)) = some (some (.int .i64 0), 1, 8) := by kernel_rfl
namespace J
/-- The contents that acts of u units leave. -/
def Good (u : Nat) (l : List (B × B)) : Prop := (∀ p ∈ l, ∃ n, p.1 = keyL n) ∧ vsum l ≤ 8 * u
theorem Good.more {u v : Nat} {l : List (B × B)} (h : Good u l) (hv : u ≤ v) : Good v l := ⟨h.1, by have := h.2; omega⟩
end J
/-- Pairs that are read; a block without pairs may be anyone's. -/
def PrsW (w : World) (M : Nat → Prop) (v : Value) (l : List (J.B × J.B)) : Prop :=
  (v = .slice none 0 0 ∧ l = []) ∨ ∃ g c, v = .slice (some ⟨g, 0, none⟩) l.length c ∧ l.length ≤ c ∧ g < w.heap.size ∧ (l ≠ [] → ¬ M g) ∧ ∀ j u, (prCells l)[j]? = some u → w.cell? ⟨g, j, none⟩ = some u
section
variable {w w' : World} {M M' : Nat → Prop} {v : Value} {l : List (J.B × J.B)}
theorem PrsW.step (h : PrsW w M v l) (hs : Step M M' w w') : PrsW w' M' v l := by
  rcases h with h | ⟨g, c, e, h1, h2, h3, h4⟩
  · exact .inl h
  · refine .inr ⟨g, c, e, h1, Nat.lt_of_lt_of_le h2 hs.size, fun hn hm => h3 hn (hs.sub g h2 hm), fun j u hu => ?_⟩
    have hn : l ≠ [] := by rintro rfl; simp [prCells] at hu
    exact (hs.cell (a := ⟨g, j, none⟩) h2 (h3 hn)).trans (h4 j u hu)
theorem PrsW.weak (h : PrsW w M v l) (hM : ∀ k, M' k → M k) : PrsW w M' v l := by
  rcases h with h | ⟨g, c, e, h1, h2, h3, h4⟩
  · exact .inl h
  · exact .inr ⟨g, c, e, h1, h2, fun hn h => h3 hn (hM g h), h4⟩
theorem PrsW.prs (h : PrsW w M v l) (hM : ∀ k, M' k → ¬ k < w.heap.size) : Prs w M' v l := by
  rcases h with h | ⟨g, c, e, h1, h2, h3, h4⟩
  · exact .inl h
  · exact .inr ⟨g, c, e, h1, h2, fun hm => hM g hm h2, h4⟩
theorem Prs.toW (h : Prs w M v l) : PrsW w M v l := by
  rcases h with h | ⟨g, c, e, h1, h2, h3, h4⟩
  · exact .inl h
  · exact .inr ⟨g, c, e, h1, h2, fun _ => h3, h4⟩
/-- .. beside the block of the law's model. -/
theorem Prs.orq {q : Nat} (h : Prs w M v l) (hno : ∀ o (u : J.B), w.cell? ⟨q, o, none⟩ ≠ some (encStr u)) : PrsW w (fun k => M k ∨ k = q) v l := by
  rcases h with h | ⟨g, c, e, h1, h2, h3, h4⟩
  · exact .inl h
  · refine .inr ⟨g, c, e, h1, h2, fun hn hm => ?_, h4⟩
    rcases hm with hm | rfl
    · exact h3 hm
    · cases l with
      | nil => exact hn rfl
      | cons a t => exact hno 0 a.1 (h4 0 _ rfl)
theorem PrsW.grown {g0 : Nat} (h : PrsW w M v l) (hno : ∀ o (u : J.B), w.cell? ⟨g0, o, none⟩ ≠ some (encStr u)) (hg : w.grownBy w' (some g0)) : PrsW w' M v l := by
  rcases h with h | ⟨g, c, e, h1, h2, h3, h4⟩
  · exact .inl h
  · refine .inr ⟨g, c, e, h1, Nat.lt_of_lt_of_le h2 hg.size, h3, fun j u hu => ?_⟩
    have hne : g ≠ g0 := by
      rintro rfl
      cases l with
      | nil => simp [prCells] at hu
      | cons a t => exact hno 0 a.1 (h4 0 _ rfl)
    exact (World.cell?_of_block (hg.block g h2 (fun e => hne (by injection e)))).trans (h4 j u hu)
theorem PrsW.slice_ (h : PrsW w M v l) : ∃ A c, v = .slice A l.length c := by
  rcases h with ⟨rfl, rfl⟩ | ⟨g, c, e, _⟩
  · exact ⟨_, _, rfl⟩
  · exact ⟨_, _, e⟩
end
def isSl (u : Value) : Prop := ∃ A n c, u = .slice A n c
def isI64 (u : Value) : Prop := ∃ k, u = .int .i64 k
abbrev num (n : Nat) : Value := .int .i64 (n : Nat)
theorem ActsAt.oth {w w' : World} {M : Nat → Prop} {A : Option Addr} {L : List J.Ac} (h : ActsAt w M A L) (ho : Oth M w w') : ActsAt w' M A L := fun hn => by
  obtain ⟨b, o, e, hb, hM, hc⟩ := h hn
  have hnb : ¬ NoBy w b := fun hno => by
    obtain ⟨h1, _, _, h2, _⟩ := hc 0 hn
    refine hno _ (UInt8.ofNat L[0].what) (h1.trans (u8_lit' _ h2))
  have hk := ho.bytes b hb hnb
  refine ⟨b, o, e, Nat.lt_of_lt_of_le hb ho.size, hM, fun i hi => ?_⟩
  obtain ⟨h1, h2, ⟨v, h3, h4⟩, h5, h6⟩ := hc i hi
  exact ⟨(World.cell?_of_block hk).trans h1, (World.cell?_of_block hk).trans h2, ⟨v, (World.cell?_of_block hk).trans h3, h4.oth ho⟩, h5, h6⟩
/-- The worlds of run: the store, the law's model, the acts, the contents and the places so far. -/
structure RunC (w0 : World) (p q : Nat) (Aa : Option Addr) (L : List J.Ac) (M0 : Nat → Prop) (sv av : Value) (vs : List Value) (M : Nat → Prop) (s : J.St) (m : LM) (states : List (List (J.B × J.B))) (at_ : List Nat) (w : World) : Prop where
  st : StoreR w p M s
  md : ModR w q M m
  cap : ∀ k, M k → k < w.heap.size
  qlt : q < w0.heap.size
  acts : ActsAt w (fun k => M k ∨ k = q) Aa L
  vlen : vs.length = states.length
  srow : w.ownsRow w0.heap.size 41 1 sv states.length vs
  sp : RowP isSl w sv
  sts : ∀ (i : Nat) (v : Value) (l : List (J.B × J.B)), vs[i]? = some v → states[i]? = some l → PrsW w (fun k => M k ∨ k = q) v l
  sn : ∀ g, sv.ownBlock = some g → ¬ M g
  arow : w.ownsRow w0.heap.size 3 1 av at_.length (at_.map num)
  ap : RowP isI64 w av
  an : ∀ g, av.ownBlock = some g → ¬ M g
  step : Step (fun k => M0 k ∨ k = q) (fun k => M k ∨ k = q) w0 w
section
variable {w0 w w' : World} {p q : Nat} {Aa : Option Addr} {L : List J.Ac} {M0 : Nat → Prop} {sv av : Value} {vs : List Value} {M M' : Nat → Prop} {s s' : J.St} {m m' : LM} {states : List (List (J.B × J.B))} {at_ : List Nat}
theorem RunC.below (h : RunC w0 p q Aa L M0 sv av vs M s m states at_ w) (hb : Below w.heap.size w w') : RunC w0 p q Aa L M0 sv av vs M s m states at_ w' :=
  ⟨h.st.below hb, h.md.step (Step.of_below hb), fun k hk => Nat.lt_of_lt_of_le (h.cap k hk) hb.size, h.qlt, h.acts.step (Step.of_below hb), h.vlen, own_same h.srow (fun k e => hb.block k (h.srow.lt k e).2), h.sp.same (fun k e => hb.block k (h.srow.lt k e).2),
    fun i v l h1 h2 => (h.sts i v l h1 h2).step (Step.of_below hb), h.sn, own_same h.arow (fun k e => hb.block k (h.arow.lt k e).2), h.ap.same (fun k e => hb.block k (h.arow.lt k e).2), h.an, h.step.trans (Step.of_below hb)⟩
theorem RunC.does (h : RunC w0 p q Aa L M0 sv av vs M s m states at_ w) (hst : StoreR w' p M' s') (hmd : ModR w' q M' m') (hs : Step (fun k => M k ∨ k = q) (fun k => M' k ∨ k = q) w w') :
    RunC w0 p q Aa L M0 sv av vs (fun k => M' k ∧ k < w'.heap.size) s' m' states at_ w' := by
  have hsn : ∀ g, sv.ownBlock = some g → ¬ (M g ∨ g = q) := fun g e hm => by
    rcases hm with hm | rfl
    · exact h.sn g e hm
    · have := (h.srow.lt g e).1; have := h.qlt; omega
  have han : ∀ g, av.ownBlock = some g → ¬ (M g ∨ g = q) := fun g e hm => by
    rcases hm with hm | rfl
    · exact h.an g e hm
    · have := (h.arow.lt g e).1; have := h.qlt; omega
  have hw : ∀ k, (M' k ∧ k < w'.heap.size) ∨ k = q → M' k ∨ k = q := fun k hk => hk.imp And.left id
  have hs2 : Step (fun k => M k ∨ k = q) (fun k => (M' k ∧ k < w'.heap.size) ∨ k = q) w w' := ⟨hs.os, hs.tape, hs.output, hs.size, hs.block, fun k hk hm => hs.sub k hk (hw k hm)⟩
  have hmd2 : ModR w' q (fun k => M' k ∧ k < w'.heap.size) m' := by
    obtain ⟨nv, wv, g1, g2, g3, g4⟩ := hmd
    exact ⟨nv, wv, g1, fun h => g2 h.1, g3.weak (fun k h => h.1), g4.weak (fun k h => h.1)⟩
  exact ⟨hst.cap, hmd2, fun k hk => hk.2, h.qlt, h.acts.step hs2, h.vlen, own_same h.srow (fun k e => hs.block k (h.srow.lt k e).2 (hsn k e)), h.sp.same (fun k e => hs.block k (h.srow.lt k e).2 (hsn k e)),
    fun i v l h1 h2 => (h.sts i v l h1 h2).step hs2, fun g e hm => hsn g e (hs.sub g (h.srow.lt g e).2 (.inl hm.1)), own_same h.arow (fun k e => hs.block k (h.arow.lt k e).2 (han k e)), h.ap.same (fun k e => hs.block k (h.arow.lt k e).2 (han k e)),
    fun g e hm => han g e (hs.sub g (h.arow.lt g e).2 (.inl hm.1)), h.step.trans hs2⟩
theorem noBy_of {pr : Value → Prop} {v : Value} {g : Nat} (h : RowP pr w v) (e : v.ownBlock = some g) (hp : ∀ u : UInt8, ¬ pr (u8 u)) : NoBy w g := fun o u hc => hp u (h.cell e hc)
theorem noStr_of {pr : Value → Prop} {v : Value} {g : Nat} (h : RowP pr w v) (e : v.ownBlock = some g) (hp : ∀ u : J.B, ¬ pr (encStr u)) : ∀ o (u : J.B), w.cell? ⟨g, o, none⟩ ≠ some (encStr u) := fun o u hc => hp u (h.cell e hc)
theorem sl_no : (∀ u : UInt8, ¬ isSl (u8 u)) ∧ ∀ u : J.B, ¬ isSl (encStr u) := ⟨fun u ⟨_, _, _, e⟩ => (by cases e), fun u ⟨_, _, _, e⟩ => (by cases e)⟩
theorem i64_no : (∀ u : UInt8, ¬ isI64 (u8 u)) ∧ ∀ u : J.B, ¬ isI64 (encStr u) := ⟨fun u ⟨_, e⟩ => (by simp [u8] at e), fun u ⟨_, e⟩ => (by cases e)⟩
theorem Step.own_grown {M M' : Nat → Prop} {a b c : World} {v : Value} (h : Step M M' a b) (hg : b.grownBy c v.ownBlock) (hv : ∀ g, v.ownBlock = some g → a.heap.size ≤ g) : Step M M' a c :=
  ⟨hg.os.trans h.os, hg.tape.trans h.tape, hg.output.trans h.output, Nat.le_trans h.size hg.size, fun k hk hn => (hg.block k (Nat.lt_of_lt_of_le hk h.size) (fun e => by have := hv k e.symm; omega)).trans (h.block k hk hn), h.sub⟩
/-- The contents grow. -/
theorem RunC.growS (h : RunC w0 p q Aa L M0 sv av vs M s m states at_ w) {sv' v : Value} {l : List (J.B × J.B)} (hv : PrsW w (fun k => M k ∨ k = q) v l) (hown : w'.ownsRow w0.heap.size 41 1 sv' (states.length + 1) (vs ++ [v])) (hg : w.grownBy w' sv.ownBlock)
    (hloc : sv'.ownBlock = sv.ownBlock ∨ sv'.ownBlock = some w.heap.size) (hp : RowP isSl w' sv') : RunC w0 p q Aa L M0 sv' av (vs ++ [v]) M s m (states ++ [l]) at_ w' := by
  have hlo : ∀ g, sv.ownBlock = some g → w0.heap.size ≤ g := fun g e => (h.srow.lt g e).1
  have hq : sv.ownBlock ≠ some q := fun e => by have := hlo q e; have := h.qlt; omega
  have hno : ∀ g, sv.ownBlock = some g → ∀ o (u : J.B), w.cell? ⟨g, o, none⟩ ≠ some (encStr u) := fun g e => noStr_of h.sp e sl_no.2
  have ho : Oth (fun k => M k ∨ k = q) w w' := Oth.of_grown hg (fun g e => ⟨fun hm => by
    rcases hm with hm | rfl
    · exact h.sn g e hm
    · exact hq e, noBy_of h.sp e sl_no.1⟩)
  have hpw : ∀ {v : Value} {l : List (J.B × J.B)}, PrsW w (fun k => M k ∨ k = q) v l → PrsW w' (fun k => M k ∨ k = q) v l := by
    intro v l hv
    cases e : sv.ownBlock with
    | none =>
      rw [e] at hg
      rcases hv with hv | ⟨g, c, e1, h1, h2, h3, h4⟩
      · exact .inl hv
      · exact .inr ⟨g, c, e1, h1, Nat.lt_of_lt_of_le h2 hg.size, h3, fun j u hu => (World.cell?_of_block (hg.block g h2 (fun e => by cases e))).trans (h4 j u hu)⟩
    | some g =>
      rw [e] at hg
      exact hv.grown (hno g e) hg
  have hmd : ModR w' q M m := by
    obtain ⟨nv, wv, g1, g2, g3, g4⟩ := h.md
    have hql := (Array.getElem?_eq_some_iff.1 g1).1
    have pm : ∀ {v : Value} {l : List (J.B × J.B)}, Prs w M v l → Prs w' M v l := by
      intro v l hv
      cases e : sv.ownBlock with
      | none =>
        rw [e] at hg
        rcases hv with hv | ⟨g, c, e1, h1, h2, h3, h4⟩
        · exact .inl hv
        · exact .inr ⟨g, c, e1, h1, Nat.lt_of_lt_of_le h2 hg.size, h3, fun j u hu => (World.cell?_of_block (hg.block g h2 (fun e => by cases e))).trans (h4 j u hu)⟩
      | some g =>
        rw [e] at hg
        exact hv.mod (hno g e) hg
    exact ⟨nv, wv, (hg.block q hql (fun e => hq e.symm)).trans g1, g2, pm g3, pm g4⟩
  have hne : ∀ g, av.ownBlock = some g → sv.ownBlock ≠ some g := fun g e e2 => by
    rcases h.srow.2 with ⟨rfl, _⟩ | ⟨g', cap, cur, rfl, _, hh, _⟩
    · simp [Value.ownBlock] at e2
    · have : g' = g := by simpa [Value.ownBlock] using e2
      subst this
      exact own_ne_row h.arow hh (by decide) e
  refine ⟨h.st.oth (ho.sub (fun k hk => .inl hk)), hmd, fun k hk => Nat.lt_of_lt_of_le (h.cap k hk) hg.size, h.qlt, h.acts.oth ho, by simp [h.vlen], by rw [List.length_append]; exact hown, hp, fun i v' l' h1 h2 => ?_, fun g e hm => ?_, own_same h.arow (fun k e => hg.block k (h.arow.lt k e).2 (fun e2 => hne k e e2.symm)), h.ap.same (fun k e => hg.block k (h.arow.lt k e).2 (fun e2 => hne k e e2.symm)), h.an, h.step.own_grown hg hlo⟩
  · by_cases hi : i < vs.length
    · rw [List.getElem?_append_left hi] at h1
      rw [List.getElem?_append_left (by rw [← h.vlen]; exact hi)] at h2
      exact hpw (h.sts i v' l' h1 h2)
    · have hi2 : i = vs.length := by
        have := (List.getElem?_eq_some_iff.1 h1).1
        simp at this; omega
      subst hi2
      rw [List.getElem?_append_right (Nat.le_refl _)] at h1
      rw [h.vlen, List.getElem?_append_right (Nat.le_refl _)] at h2
      simp at h1 h2
      subst h1 h2
      exact hpw hv
  · rcases hloc with e2 | e2
    · exact h.sn g (e2.symm.trans e) hm
    · have := h.cap g hm
      rw [e] at e2; injection e2 with e2; omega
/-- The places grow. -/
theorem RunC.growA (h : RunC w0 p q Aa L M0 sv av vs M s m states at_ w) {av' : Value} {n : Nat} (hown : w'.ownsRow w0.heap.size 3 1 av' (at_.length + 1) (at_.map num ++ [num n])) (hg : w.grownBy w' av.ownBlock)
    (hloc : av'.ownBlock = av.ownBlock ∨ av'.ownBlock = some w.heap.size) (hp : RowP isI64 w' av') : RunC w0 p q Aa L M0 sv av' vs M s m states (at_ ++ [n]) w' := by
  have hlo : ∀ g, av.ownBlock = some g → w0.heap.size ≤ g := fun g e => (h.arow.lt g e).1
  have hq : av.ownBlock ≠ some q := fun e => by have := hlo q e; have := h.qlt; omega
  have hno : ∀ g, av.ownBlock = some g → ∀ o (u : J.B), w.cell? ⟨g, o, none⟩ ≠ some (encStr u) := fun g e => noStr_of h.ap e i64_no.2
  have ho : Oth (fun k => M k ∨ k = q) w w' := Oth.of_grown hg (fun g e => ⟨fun hm => by
    rcases hm with hm | rfl
    · exact h.an g e hm
    · exact hq e, noBy_of h.ap e i64_no.1⟩)
  have hpw : ∀ {v : Value} {l : List (J.B × J.B)}, PrsW w (fun k => M k ∨ k = q) v l → PrsW w' (fun k => M k ∨ k = q) v l := by
    intro v l hv
    cases e : av.ownBlock with
    | none =>
      rw [e] at hg
      rcases hv with hv | ⟨g, c, e1, h1, h2, h3, h4⟩
      · exact .inl hv
      · exact .inr ⟨g, c, e1, h1, Nat.lt_of_lt_of_le h2 hg.size, h3, fun j u hu => (World.cell?_of_block (hg.block g h2 (fun e => by cases e))).trans (h4 j u hu)⟩
    | some g =>
      rw [e] at hg
      exact hv.grown (hno g e) hg
  have hmd : ModR w' q M m := by
    obtain ⟨nv, wv, g1, g2, g3, g4⟩ := h.md
    have hql := (Array.getElem?_eq_some_iff.1 g1).1
    have pm : ∀ {v : Value} {l : List (J.B × J.B)}, Prs w M v l → Prs w' M v l := by
      intro v l hv
      cases e : av.ownBlock with
      | none =>
        rw [e] at hg
        rcases hv with hv | ⟨g, c, e1, h1, h2, h3, h4⟩
        · exact .inl hv
        · exact .inr ⟨g, c, e1, h1, Nat.lt_of_lt_of_le h2 hg.size, h3, fun j u hu => (World.cell?_of_block (hg.block g h2 (fun e => by cases e))).trans (h4 j u hu)⟩
      | some g =>
        rw [e] at hg
        exact hv.mod (hno g e) hg
    exact ⟨nv, wv, (hg.block q hql (fun e => hq e.symm)).trans g1, g2, pm g3, pm g4⟩
  have hne : ∀ g, sv.ownBlock = some g → av.ownBlock ≠ some g := fun g e e2 => by
    rcases h.arow.2 with ⟨rfl, _⟩ | ⟨g', cap, cur, rfl, _, hh, _⟩
    · simp [Value.ownBlock] at e2
    · have : g' = g := by simpa [Value.ownBlock] using e2
      subst this
      exact own_ne_row h.srow hh (by decide) e
  refine ⟨h.st.oth (ho.sub (fun k hk => .inl hk)), hmd, fun k hk => Nat.lt_of_lt_of_le (h.cap k hk) hg.size, h.qlt, h.acts.oth ho, h.vlen, own_same h.srow (fun k e => hg.block k (h.srow.lt k e).2 (fun e2 => hne k e e2.symm)), h.sp.same (fun k e => hg.block k (h.srow.lt k e).2 (fun e2 => hne k e e2.symm)), fun i v' l' h1 h2 => hpw (h.sts i v' l' h1 h2), h.sn, by rw [List.length_append, List.map_append]; exact hown, hp, fun g e hm => ?_, h.step.own_grown hg hlo⟩
  rcases hloc with e2 | e2
  · exact h.an g (e2.symm.trans e) hm
  · have := h.cap g hm
    rw [e] at e2; injection e2 with e2; omega
end
end Go.Proofs.Ythjjbaiijelhnaa
