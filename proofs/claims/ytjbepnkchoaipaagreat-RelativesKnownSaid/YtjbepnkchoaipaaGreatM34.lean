import Derived.Test.YtjbepnkchoaipaaGreatM33
import Derived.Test.YtjbepnkchoaipaaGreatM32
set_option linter.unusedVariables false
set_option linter.unusedSimpArgs false
/- Law 31: Next. -/
namespace Go.Proofs.YtjbepnkchoaipaaGreat
open Go.RowKit Go.Lib Go.Maps Go.WideMaps Go.Sort Go.Shelf
set_option maxRecDepth 100000
attribute [local go_sem] Oper.semAt_some
theorem boxed_own {β : Type} (B b : Nat) (t : TypeId) (v : Value) : OwnFrom (β := β) B (fun _ W => Boxed W b t v) := fun _ W W' row h hg hr => by
  have h' : W.heap[b]? = _ := h
  refine (hg.block b (Array.getElem?_eq_some_iff.1 h').1 (fun e => ?_)).trans h'
  obtain ⟨_, o, ho, hc⟩ := hr b e.symm
  rw [h'] at ho
  injection ho with ho
  subst ho
  cases hc
theorem const_own {β : Type} (B : Nat) (p : β → Prop) : OwnFrom B (fun (x : β) (_ : World) => p x) := fun _ _ _ _ h _ _ => h
theorem row_own {β : Type} (B b : Nat) (t : TypeId) (cs : Array Value) (fr : Nat × Nat) : OwnFrom (β := β) B (fun _ W => W.heap[b]? = some (.cells cs t fr)) := fun _ W W' row h hg hr => by
  refine (hg.block b (Array.getElem?_eq_some_iff.1 h).1 (fun e => ?_)).trans h
  obtain ⟨_, o, ho, hc⟩ := hr b e.symm
  rw [h] at ho
  injection ho with ho
  subst ho
  cases hc
theorem grown_own {β : Type} (w : World) (b B : Nat) (hB : w.heap.size ≤ B) : OwnFrom (β := β) B (fun _ W => w.grownBy W (some b)) := fun _ W W' row h hg hr =>
  ⟨hg.os.trans h.os, hg.tape.trans h.tape, hg.output.trans h.output, Nat.le_trans h.size hg.size, fun k hk hn => (hg.block k (Nat.lt_of_lt_of_le hk h.size) (fun e => by have := (hr k e.symm).1; omega)).trans (h.block k hk hn)⟩
theorem slc_ownF {β : Type} (B : Nat) (M : Nat → Prop) (v : Value) (l : List UInt8) : OwnFrom (β := β) B (fun _ W => Slc W M v l) := fun _ W W' row h hg hr => by
  rcases h with h | ⟨b, o, e, h1, h2, hm, h3⟩
  · exact .inl h
  · have hk : W'.heap[b]? = W.heap[b]? := hg.block b h2.1 (fun e => by
      obtain ⟨_, o, ho, hc⟩ := hr b e.symm
      obtain ⟨_, cur, fr, hb⟩ := h2
      rw [hb] at ho
      injection ho with ho
      subst ho
      cases hc)
    refine .inr ⟨b, o, e, h1, h2.same hg.size hk, hm, h3.1, fun hn => ?_⟩
    obtain ⟨b', o', e', hb, hM, hc⟩ := h3.2 hn
    injection e' with e'; injection e' with e1 e2 e3; subst e1 e2
    exact ⟨b, o, rfl, Nat.lt_of_lt_of_le hb hg.size, hM, fun j hj => (World.cell?_of_block hk).trans (hc j hj)⟩
theorem results_cell3 {P : Program} {fn : Func} {p u q : Tmp} {t1 t2 t3 e1 : TypeId} {k2 : IntKind} (h : fn.results = #[.cell p t1, .cell u t2, .cell q t3]) (tmps : Array Value) (w : World) (a b c : Addr) (x y z : Value) (hp : tmps.getD p undef = .pointer (some a)) (hu : tmps.getD u undef = .pointer (some b)) (hq : tmps.getD q undef = .pointer (some c))
    (h1 : P.underlying t1 = some (.slice e1)) (h2 : P.underlying t2 = some (.int k2)) (h3 : P.underlying t3 = some .string) (hx : w.cell? a = some x) (hy : w.cell? b = some y) (hz : w.cell? c = some z) : (results fn tmps).run P w = .ok (.tuple #[x, y, z]) w := by
  have hp' : tmps[p]?.getD undef = .pointer (some a) := by simpa using hp
  have hu' : tmps[u]?.getD undef = .pointer (some b) := by simpa using hu
  have hq' : tmps[q]?.getD undef = .pointer (some c) := by simpa using hq
  simp [results, h, hp', hu', hq', asAddr, loadVar, Sem.run_bind, isAgg, go_sem, run_underlying h1, run_underlying h2, run_underlying h3, hx, hy, hz]
section
variable {w0 : World} {p pf : Nat} {nm : J.B} {rel : Bool} {size mode nxt last : Nat} {w : World} {s : J.St} {fs : List (Nat × Obj)}
/-- Next where the file may not be read, or its position is lost. -/
theorem chk_ne {x : J.B} (h : x ≠ [48, 48]) : ((⟨x.toArray⟩ : ByteArray).toList == [48, 48]) = false := by
  rw [ByteArray.toList_eq]
  simpa using h
/-- The four boxes of Next. -/
structure NxI (w : World) (pf : Nat) (v : Value) (n : Int) (st : ByteArray) (W : World) : Prop where
  f : Boxed W w.heap.size 27 (.pointer (some ⟨pf, 0, none⟩))
  v : Boxed W (w.heap.size + 1) 37 v
  n : Boxed W (w.heap.size + 1 + 1) 3 (.int .i64 n)
  s : Boxed W (w.heap.size + 1 + 1 + 1) 9 (.string st)
theorem nx_new (w : World) (pf : Nat) : NxI w pf (.slice none 0 0) 0 ⟨#[]⟩ ((((w.alloc (.cells #[.pointer (some ⟨pf, 0, none⟩)] 27)).alloc (.cells #[.slice none 0 0] 37)).alloc (.cells #[.int .i64 0] 3)).alloc (.cells #[.string ⟨#[]⟩] 9)) := by
  refine ⟨?_, ?_, ?_, ?_⟩
  · exact (((Boxed.new w 27 (.pointer (some ⟨pf, 0, none⟩))).alloc _).alloc _).alloc _
  · have := (((Boxed.new (w.alloc (.cells #[.pointer (some ⟨pf, 0, none⟩)] 27)) 37 (.slice none 0 0))).alloc (.cells #[.int .i64 0] 3)).alloc (.cells #[.string ⟨#[]⟩] 9)
    simpa using this
  · have := (Boxed.new ((w.alloc (.cells #[.pointer (some ⟨pf, 0, none⟩)] 27)).alloc (.cells #[.slice none 0 0] 37)) 3 (.int .i64 0)).alloc (.cells #[.string ⟨#[]⟩] 9)
    simpa using this
  · have := Boxed.new (((w.alloc (.cells #[.pointer (some ⟨pf, 0, none⟩)] 27)).alloc (.cells #[.slice none 0 0] 37)).alloc (.cells #[.int .i64 0] 3)) 9 (.string ⟨#[]⟩)
    simpa using this
theorem nx_below (w : World) (pf : Nat) : Below w.heap.size w ((((w.alloc (.cells #[.pointer (some ⟨pf, 0, none⟩)] 27)).alloc (.cells #[.slice none 0 0] 37)).alloc (.cells #[.int .i64 0] 3)).alloc (.cells #[.string ⟨#[]⟩] 9)) :=
  ((((Below.refl _ w).alloc (Nat.le_refl _) _).alloc (by simp) _).alloc (by simp; omega) _).alloc (by simp; omega) _
theorem nx_set {W : World} {v v' : Value} {n n' : Int} {st st' : ByteArray} (h : NxI w pf v n st W) : NxI w pf v' n' st' (((W.setCell ⟨w.heap.size + 1, 0, none⟩ v').setCell ⟨w.heap.size + 1 + 1, 0, none⟩ (.int .i64 n')).setCell ⟨w.heap.size + 1 + 1 + 1, 0, none⟩ (.string st')) :=
  ⟨((h.f.other (by omega) _).other (by omega) _).other (by omega) _, ((h.v.set _).other (by omega) _).other (by omega) _, ((h.n.other (by omega) _).set _).other (by omega) _, ((h.s.other (by omega) _).other (by omega) _).set _⟩
theorem boxed_any {W : World} {B b : Nat} {t : TypeId} {v : Value} (h : Boxed W B t v) (hne : B ≠ b) (i : Nat) (u : Value) : Boxed (W.setCell ⟨b, i, none⟩ u) B t v :=
  (Below.heap_setCell W ⟨b, i, none⟩ u B hne).trans h
theorem nx_pf {W : World} {v : Value} {n : Int} {st : ByteArray} (h : NxI w pf v n st W) (hl : pf < w.heap.size) (i : Nat) (u : Value) : NxI w pf v n st (W.setCell ⟨pf, i, none⟩ u) :=
  ⟨boxed_any h.f (by omega) i u, boxed_any h.v (by omega) i u, boxed_any h.n (by omega) i u, boxed_any h.s (by omega) i u⟩
theorem nx_set_below {W : World} {b : Nat} (hb : Below b w W) (h : b ≤ w.heap.size) (v' : Value) (n' : Int) (st' : ByteArray) : Below b w (((W.setCell ⟨w.heap.size + 1, 0, none⟩ v').setCell ⟨w.heap.size + 1 + 1, 0, none⟩ (.int .i64 n')).setCell ⟨w.heap.size + 1 + 1 + 1, 0, none⟩ (.string st')) :=
  ((hb.setCell (by show b ≤ w.heap.size + 1; omega) _).setCell (by show b ≤ w.heap.size + 1 + 1; omega) _).setCell (by show b ≤ w.heap.size + 1 + 1 + 1; omega) _
theorem nx_results {W : World} {v : Value} {n : Int} {st : ByteArray} (h : NxI w pf v n st W) (tmps : Array Value) (h2 : tmps.getD 2 undef = .pointer (some ⟨w.heap.size + 1, 0, none⟩)) (h3 : tmps.getD 3 undef = .pointer (some ⟨w.heap.size + 1 + 1, 0, none⟩)) (h4 : tmps.getD 4 undef = .pointer (some ⟨w.heap.size + 1 + 1 + 1, 0, none⟩)) :
    (results Tryz.f13 tmps).run Tryz.prog W = .ok (.tuple #[v, .int .i64 n, .string st]) W :=
  results_cell3 rfl _ _ _ _ _ _ _ _ h2 h3 h4 Tryz.underlying37 Tryz.underlying3 Tryz.underlying9 h.v.cell h.n.cell h.s.cell
theorem next_shut (h0 : w.heap[pf]? = some (fileO p nm rel size mode nxt last)) (hs : chk [52, 55] false 1 3 rel mode ≠ [48, 48]) :
    Calls Tryz.prog 13 #[.pointer (some ⟨pf, 0, none⟩)] w fun e w' => e = .returned (.tuple #[.slice none 0 0, .int .i64 0, .string ⟨(chk [52, 55] false 1 3 rel mode).toArray⟩]) ∧ Below w.heap.size w w' := by
  have hck : ∀ w1, Below w.heap.size w w1 → Calls Tryz.prog 41 #[.pointer (some ⟨pf, 0, none⟩), .string ⟨#[52, 55]⟩, .bool false, .int .u8 1, .int .u8 3] w1 fun e w' => e = .returned (.string ⟨(chk [52, 55] false 1 3 rel mode).toArray⟩) ∧ w1 = w' := fun w1 hb => fcheck_any (wrong := [52, 55]) (need := false) (a := 1) (b := 3) ((hb.block pf (Array.getElem?_eq_some_iff.1 h0).1).trans h0)
  have hne := chk_ne hs
  have hb := nx_below w pf
  have hi := nx_new w pf
  generalize hw4 : ((((w.alloc (.cells #[.pointer (some ⟨pf, 0, none⟩)] 27)).alloc (.cells #[.slice none 0 0] 37)).alloc (.cells #[.int .i64 0] 3)).alloc (.cells #[.string ⟨#[]⟩] 9)) = w4 at hb hi
  have HCK := Lib.hid (hck w4 hb)
  generalize (⟨(chk [52, 55] false 1 3 rel mode).toArray⟩ : ByteArray) = st at HCK hne ⊢
  have h1 := hi.f.cell
  have c2 := hi.v.cell
  have c3 := hi.n.cell
  have c4 := hi.s.cell
  have h2 := hi.v.frozen
  have h3 := hi.n.frozen
  have h4 := hi.s.frozen
  have HI := Lib.hid hi
  have HB := Lib.hid hb
  clear hck hs h0 hi hb
  go_enter Tryz.func13, Tryz.ntmps13
  go_wp2_with fail
  refine HCK.out.mono ?_
  rintro e w1 ⟨rfl, hw⟩
  subst hw
  clear hw4 HCK
  go_wp2
  refine bodyPost_ret (nx_results (nx_set HI.out) _ rfl rfl rfl) rfl ?_
  exact ⟨rfl, nx_set_below HB.out (Nat.le_refl _) _ _ _⟩
theorem bs_ne {x y : J.B} (h : x ≠ y) : ((⟨x.toArray⟩ : ByteArray).toList == y) = false := by
  rw [ByteArray.toList_eq]
  simpa using h
theorem grown_of_below {W : World} (hb : Below w.heap.size w W) (b : Nat) : w.grownBy W (some b) := ⟨hb.os, hb.tape, hb.output, hb.size, fun k hk _ => hb.block k hk⟩
theorem grown_other {W : World} {b : Nat} (hg : w.grownBy W (some b)) {c : Nat} (hc : w.heap.size ≤ c) (o : Nat) (v : Value) : w.grownBy (W.setCell ⟨c, o, none⟩ v) (some b) :=
  ⟨hg.os, hg.tape, hg.output, by simpa [World.setCell] using hg.size, fun k hk hn => (Below.heap_setCell W _ v k (by show k ≠ c; omega)).trans (hg.block k hk hn)⟩
/-- Next where its position is lost. -/
theorem next_lost (h0 : w.heap[pf]? = some (fileO p nm rel size mode 0 last)) (hs : chk [52, 55] false 1 3 rel mode = [48, 48]) :
    Calls Tryz.prog 13 #[.pointer (some ⟨pf, 0, none⟩)] w fun e w' => e = .returned (.tuple #[.slice none 0 0, .int .i64 0, .string ⟨#[52, 54]⟩]) ∧ w.grownBy w' (some pf) ∧ w'.heap[pf]? = some (fileO p nm rel size mode 0 0) := by
  have hck : ∀ w1, Below w.heap.size w w1 → Calls Tryz.prog 41 #[.pointer (some ⟨pf, 0, none⟩), .string ⟨#[52, 55]⟩, .bool false, .int .u8 1, .int .u8 3] w1 fun e w' => e = .returned (.string ⟨#[48, 48]⟩) ∧ w1 = w' := fun w1 hb => by
    have := fcheck_any (wrong := [52, 55]) (need := false) (a := 1) (b := 3) ((hb.block pf (Array.getElem?_eq_some_iff.1 h0).1).trans h0)
    rw [hs] at this
    exact this
  have hlt := (Array.getElem?_eq_some_iff.1 h0).1
  have hb := nx_below w pf
  have hi := nx_new w pf
  generalize hw4 : ((((w.alloc (.cells #[.pointer (some ⟨pf, 0, none⟩)] 27)).alloc (.cells #[.slice none 0 0] 37)).alloc (.cells #[.int .i64 0] 3)).alloc (.cells #[.string ⟨#[]⟩] 9)) = w4 at hb hi
  have HCK := Lib.hid (hck w4 hb)
  have hr4 := (hb.block pf hlt).trans h0
  have HC := Lib.hid (fun j => cell_of_row w4 pf j _ _ _ hr4)
  have HZ := Lib.hid (frozen_row hr4)
  have h1 := hi.f.cell
  have c2 := hi.v.cell
  have c3 := hi.n.cell
  have c4 := hi.s.cell
  have h2 := hi.v.frozen
  have h3 := hi.n.frozen
  have h4 := hi.s.frozen
  have HI := Lib.hid (nx_pf hi hlt 6 (.int .i64 0))
  have HG := Lib.hid (grown_set (grown_of_below hb pf) 6 (.int .i64 0))
  have HR := Lib.hid (blk_set hr4 6 (.int .i64 0))
  have HL := Lib.hid hlt
  clear hck hs h0 hi hb hr4 hlt
  go_enter Tryz.func13, Tryz.ntmps13
  go_wp2_with fail
  refine HCK.out.mono ?_
  rintro e w1 ⟨rfl, hw⟩
  subst hw
  clear hw4 HCK
  have hc := HC.out
  have hfz := HZ.out
  go_wp2
  have hlt := HL.out
  have n1 : pf ≠ w.heap.size + 1 := by omega
  have n2 : pf ≠ w.heap.size + 1 + 1 := by omega
  have n3 : pf ≠ w.heap.size + 1 + 1 + 1 := by omega
  refine bodyPost_ret (nx_results (nx_set HI.out) _ rfl rfl rfl) rfl ?_
  refine ⟨rfl, grown_other (grown_other (grown_other HG.out (by omega) _ _) (by omega) _ _) (by omega) _ _, ?_⟩
  rw [Below.heap_setCell _ _ _ pf n3, Below.heap_setCell _ _ _ pf n2, Below.heap_setCell _ _ _ pf n1]
  exact HR.out
theorem boxed_grown {W W' : World} {B : Nat} {t : TypeId} {v : Value} (h : Boxed W B t v) (hg : W.grownBy W' (some pf)) (hne : B ≠ pf) : Boxed W' B t v := by
  have h' : W.heap[B]? = _ := h
  exact (hg.block B (Array.getElem?_eq_some_iff.1 h').1 (fun e => hne (by injection e))).trans h'
theorem nx_grown {W W' : World} {v : Value} {n : Int} {st : ByteArray} (h : NxI w pf v n st W) (hg : W.grownBy W' (some pf)) (hl : pf < w.heap.size) : NxI w pf v n st W' :=
  ⟨boxed_grown h.f hg (by omega), boxed_grown h.v hg (by omega), boxed_grown h.n hg (by omega), boxed_grown h.s hg (by omega)⟩
theorem slc_set {W : World} {M : Nat → Prop} {v : Value} {l : List UInt8} (h : Slc W M v l) (b : Nat) (t : TypeId) (u u' : Value) (hb : Boxed W b t u) (ht : t ≠ 5) : Slc (W.setCell ⟨b, 0, none⟩ u') M v l := by
  rcases h with h | ⟨g, o, e, h1, h2, hm, h3⟩
  · exact .inl h
  · have hne : g ≠ b := fun e => by
      subst e
      obtain ⟨_, cur, fr, hh⟩ := h2
      rw [show W.heap[g]? = _ from hb] at hh
      injection hh with hh; injection hh with _ hh; exact ht hh
    have hk : (W.setCell ⟨b, 0, none⟩ u').heap[g]? = W.heap[g]? := Below.heap_setCell _ _ _ g hne
    have hz : W.heap.size ≤ (W.setCell ⟨b, 0, none⟩ u').heap.size := (KeepsOthers.setCell W ⟨b, 0, none⟩ u').size
    refine .inr ⟨g, o, e, h1, h2.same hz hk, hm, h3.1, fun hn => ?_⟩
    obtain ⟨b', o', e', hb', hM, hc⟩ := h3.2 hn
    injection e' with e'; injection e' with e1 e2 e3; subst e1 e2
    exact ⟨g, o, rfl, Nat.lt_of_lt_of_le hb' hz, hM, fun j hj => (World.cell?_of_block hk).trans (hc j hj)⟩
theorem nxs_set {W : World} {x : Nm} {v u0 : Value} {n0 : Int} {s0 : ByteArray} (hi : NxI w pf u0 n0 s0 W) (hl : pf < w.heap.size) (hs : Slc W (· < w.heap.size) v ((J.look s.now (R.key nm x.val)).getD [])) (hg : w.grownBy W (some pf)) (hr : W.heap[pf]? = some (fileO p nm rel size mode (x.val + 1) x.val)) :
    NxI w pf v (x.val : Nat) ⟨#[48, 48]⟩ (((W.setCell ⟨w.heap.size + 1, 0, none⟩ v).setCell ⟨w.heap.size + 1 + 1, 0, none⟩ (.int .i64 (x.val : Nat))).setCell ⟨w.heap.size + 1 + 1 + 1, 0, none⟩ (.string ⟨#[48, 48]⟩)) ∧ Slc (((W.setCell ⟨w.heap.size + 1, 0, none⟩ v).setCell ⟨w.heap.size + 1 + 1, 0, none⟩ (.int .i64 (x.val : Nat))).setCell ⟨w.heap.size + 1 + 1 + 1, 0, none⟩ (.string ⟨#[48, 48]⟩)) (· < w.heap.size) v ((J.look s.now (R.key nm x.val)).getD []) ∧
    w.grownBy (((W.setCell ⟨w.heap.size + 1, 0, none⟩ v).setCell ⟨w.heap.size + 1 + 1, 0, none⟩ (.int .i64 (x.val : Nat))).setCell ⟨w.heap.size + 1 + 1 + 1, 0, none⟩ (.string ⟨#[48, 48]⟩)) (some pf) ∧ (((W.setCell ⟨w.heap.size + 1, 0, none⟩ v).setCell ⟨w.heap.size + 1 + 1, 0, none⟩ (.int .i64 (x.val : Nat))).setCell ⟨w.heap.size + 1 + 1 + 1, 0, none⟩ (.string ⟨#[48, 48]⟩)).heap[pf]? = some (fileO p nm rel size mode (x.val + 1) x.val) := by
  refine ⟨nx_set hi, ?_, grown_other (grown_other (grown_other hg (by omega) _ _) (by omega) _ _) (by omega) _ _, ?_⟩
  · refine slc_set (slc_set (slc_set hs _ _ _ _ hi.v (by decide)) _ _ _ _ (hi.n.other (by omega) _) (by decide)) _ _ _ _ ((hi.s.other (by omega) _).other (by omega) _) (by decide)
  · have n1 : pf ≠ w.heap.size + 1 := by omega
    have n2 : pf ≠ w.heap.size + 1 + 1 := by omega
    have n3 : pf ≠ w.heap.size + 1 + 1 + 1 := by omega
    rw [Below.heap_setCell _ _ _ pf n3, Below.heap_setCell _ _ _ pf n2, Below.heap_setCell _ _ _ pf n1]
    exact hr
theorem kpG_refl (D : World → Nat → Prop) (W : World) : KpG D pf p nm rel size W W := ⟨⟨fun _ _ h _ _ => h, Nat.le_refl _, fun _ _ h => h⟩, fun a b c e => ⟨a, b, c, e⟩⟩
/-- Left in the plain way alone. -/
def OnN (Q : Exit → Act → World → Prop) (e : Exit) (a : Act) (w : World) : Prop := e = .normal ∧ Q e a w
theorem nx_own {β : Type} (B : Nat) (w : World) (v : Value) (n : Int) (st : ByteArray) : OwnFrom (β := β) B (fun _ W => NxI w pf v n st W) := fun x W W' row h hg hr =>
  ⟨boxed_own B _ _ _ x W W' row h.f hg hr, boxed_own B _ _ _ x W W' row h.v hg hr, boxed_own B _ _ _ x W W' row h.n hg hr, boxed_own B _ _ _ x W W' row h.s hg hr⟩
/-- What a round that stops has laid. -/
structure NxS (w : World) (pf p : Nat) (nm : J.B) (rel : Bool) (size mode : Nat) (s : J.St) (x : Nm) (v : Value) (W : World) : Prop where
  i : NxI w pf v (x.val : Nat) ⟨#[48, 48]⟩ W
  slc : Slc W (· < w.heap.size) v ((J.look s.now (R.key nm x.val)).getD [])
  grown : w.grownBy W (some pf)
  row : W.heap[pf]? = some (fileO p nm rel size mode (x.val + 1) x.val)
theorem nxs_own {β : Type} (B : Nat) (hB : w.heap.size ≤ B) (x : Nm) (v : Value) : OwnFrom (β := β) B (fun _ W => NxS w pf p nm rel size mode s x v W) := fun y W W' row h hg hr =>
  ⟨nx_own B w _ _ _ y W W' row h.i hg hr, slc_ownF B _ _ _ y W W' row h.slc hg hr, grown_own w pf B hB y W W' row h.grown hg hr, row_own B pf _ _ _ y W W' row h.row hg hr⟩
/-- What Next does where it may read: the record that is found, or the end. -/
def NxR (w : World) (pf p : Nat) (nm : J.B) (rel : Bool) (size mode : Nat) (s : J.St) : Option Nm → Ending → World → Prop
  | some x, e, w' => ∃ v, e = .returned (.tuple #[v, .int .i64 (x.val : Nat), .string ⟨#[48, 48]⟩]) ∧ Slc w' (· < w.heap.size) v ((J.look s.now (R.key nm x.val)).getD []) ∧ w.grownBy w' (some pf) ∧ w'.heap[pf]? = some (fileO p nm rel size mode (x.val + 1) x.val)
  | none, e, w' => e = .returned (.tuple #[.slice none 0 0, .int .i64 0, .string ⟨#[49, 48]⟩]) ∧ w.grownBy w' (some pf) ∧ w'.heap[pf]? = some (fileO p nm rel size mode 0 0)
theorem next_read (ns : List Nm) (h : At w0 p fs s w) (hf : (pf, fileO p nm rel size mode nxt last) ∈ fs) (hnm : nm.length ≤ 100) (hml : s.now.length ≤ 1000000)
    (hk : keysOf s.now ⟨(R.recs nm).toArray⟩ = ns.map fun x => R.key nm x.val) (hpos : ∀ x ∈ ns, 1 ≤ x.val) (hl : ∀ n l, J.look s.now (R.key nm n) = some l → l.length ≤ 90000000) (hn0 : 0 < nxt) (hs : chk [52, 55] false 1 3 rel mode = [48, 48]) :
    CallsIn Fence.wide 6 Tryz.prog 13 #[.pointer (some ⟨pf, 0, none⟩)] w (NxR w pf p nm rel size mode s (ns.find? fun x => decide (nxt ≤ x.val))) := by
  have h0 := h.get hf
  have hck : ∀ w1, Below w.heap.size w w1 → Calls Tryz.prog 41 #[.pointer (some ⟨pf, 0, none⟩), .string ⟨#[52, 55]⟩, .bool false, .int .u8 1, .int .u8 3] w1 fun e w' => e = .returned (.string ⟨#[48, 48]⟩) ∧ w1 = w' := fun w1 hb => by
    have := fcheck_any (wrong := [52, 55]) (need := false) (a := 1) (b := 3) ((hb.block pf (Array.getElem?_eq_some_iff.1 h0).1).trans h0)
    rw [hs] at this
    exact this
  have hlt := (Array.getElem?_eq_some_iff.1 h0).1
  have hb := nx_below w pf
  have hi := nx_new w pf
  generalize hw4 : ((((w.alloc (.cells #[.pointer (some ⟨pf, 0, none⟩)] 27)).alloc (.cells #[.slice none 0 0] 37)).alloc (.cells #[.int .i64 0] 3)).alloc (.cells #[.string ⟨#[]⟩] 9)) = w4 at hb hi
  have HCK := Lib.hid (callsIn_wide.2 (hck w4 hb) : CallsIn Fence.wide 5 _ _ _ _ _)
  have hr4 := (hb.block pf hlt).trans h0
  have HC := Lib.hid (fun j => cell_of_row w4 pf j _ _ _ hr4)
  have h1 := hi.f.cell
  have HI := Lib.hid hi
  have HB := Lib.hid hb
  have HL := Lib.hid hlt
  have HAL := Lib.hid (all_any pf w4)
  have HAT := Lib.hid h
  have HF := Lib.hid hf
  have HK := Lib.hid hk
  have HP := Lib.hid hpos
  have HLL := Lib.hid hl
  have hn1 : ¬ ((nxt : Int) = 0) := by omega
  clear hck hs h0 hi hb hr4 hlt h hf hk hpos hl
  refine callsIn_of_wp_marks Tryz.func13 rfl trivial ?_ rfl
  simp only [Tryz.ntmps13, List.size_toArray, List.length_cons, List.length_nil, Nat.reduceAdd, Nat.reduceSub, Array.replicate_succ, Array.replicate_zero, List.push_toArray, List.append_toArray, List.nil_append, List.cons_append]
  gi_wp2_with fail
  refine ⟨trivial, HCK.out.mono ?_⟩
  rintro e Y ⟨rfl, hY⟩
  subst hY
  have hc := HC.out
  clear hw4 HCK
  gi_wp2_with fail
  refine ⟨trivial, HAL.out.mono ?_⟩
  rintro e Y ⟨rfl, hY⟩
  clear HAL
  gi_wp2_with fail
  have hb6 : Below w.heap.size w (w4.alloc (.cells #[.pointer (some ⟨pf, 0, none⟩)] 27)) := HB.out.alloc HB.out.size _
  have hi6 : NxI w pf (.slice none 0 0) 0 ⟨#[]⟩ (w4.alloc (.cells #[.pointer (some ⟨pf, 0, none⟩)] 27)) := ⟨HI.out.f.alloc _, HI.out.v.alloc _, HI.out.n.alloc _, HI.out.s.alloc _⟩
  have hbx := (Boxed.new w4 27 (.pointer (some ⟨pf, 0, none⟩))).cell
  generalize (w4.alloc (.cells #[.pointer (some ⟨pf, 0, none⟩)] 27)) = w6 at hb6 hi6 hbx ⊢
  clear hY
  have HST := Lib.hid (all_stops 5 (by omega) w4.heap.size ns (fun _ => False) hnm (HAT.out.below hb6) HF.out hml HK.out HP.out hbx (fun _ h => h.elim))
  have HI6 := Lib.hid hi6
  have HB6 := Lib.hid hb6
  clear hi6 hb6 hbx hc h1 HC HI
  refine wpIn_rangeFunc_ownF rfl (by omega) (gf := 75) (lb := #[.pointer (some ⟨w4.heap.size, 0, none⟩)]) rfl trivial (enters_of Tryz.func75 (by kernel_rfl) rfl)
    HST.out KpG.t (fun W l o o' hl h hc _ => KpG.put (w := w6) (fun _ _ h => h.elim) (fun _ _ _ _ _ _ h => h.elim) W l o o' hl h hc) (Below.refl _ _) (fun _ => rfl)
    (fun pr W => (∀ y ∈ pr, y.val < nxt) ∧ NxI w pf (.slice none 0 0) 0 ⟨#[]⟩ W ∧ Below w.heap.size w W)
    (fun c pr W => (c = .ret ∧ ∃ q x v, pr = q ++ [x] ∧ (∀ y ∈ q, y.val < nxt) ∧ nxt ≤ x.val ∧ NxS w pf p nm rel size mode s x v W))
    (OwnFrom.and (const_own _ _) (OwnFrom.and (nx_own _ _ _ _ _) (ownFrom_below (Nat.le_refl _) HB6.out.size)))
    (fun c pr W W' row h hg hr => by
      obtain ⟨h1, q, x, v, h2, h3, h4, h5⟩ := h
      exact ⟨h1, q, x, v, h2, h3, h4, nxs_own (β := List Nm) _ HB6.out.size x v pr W W' row h5 hg hr⟩)
    ⟨(fun _ h => by cases h), HI6.out, HB6.out⟩
    (fun x => { tmps := #[.pointer (some ⟨pf, 0, none⟩), .pointer (some ⟨w.heap.size, 0, none⟩), .pointer (some ⟨w.heap.size + 1, 0, none⟩), .pointer (some ⟨w.heap.size + 1 + 1, 0, none⟩), .pointer (some ⟨w.heap.size + 1 + 1 + 1, 0, none⟩), .string ⟨#[48, 48]⟩, encN x, undef, .pointer (some ⟨pf, 0, none⟩), .string ⟨#[48, 48]⟩, .string ⟨#[48, 48]⟩, .bool false, undef, .pointer (some ⟨pf, 0, none⟩), .pointer (some ⟨pf, 0, none⟩), .pointer (some ⟨pf, 5, none⟩), .int .i64 (nxt : Nat), .bool false, undef, undef, undef, .pointer (some ⟨pf, 0, none⟩), .func (.func 75) #[] #[.pointer (some ⟨w4.heap.size, 0, none⟩)], encN x, undef, undef, undef, undef, undef, undef, undef, undef, undef, undef, undef, undef, undef, undef, undef, undef, undef], defers := [] }) ?assign ?body ?done ?stop
  case assign =>
    intro l x W K hK
    gi_wp2
    exact hK
  case body =>
    rintro l pr x W ⟨hpr, hI, hB⟩ hlt
    have hrow := (hB.block pf HL.out).trans (HAT.out.get HF.out)
    have hc := fun j => cell_of_row W pf j _ _ _ hrow
    have f1 := hI.f.cell
    have HW := Lib.hid hI
    have HBW := Lib.hid hB
    have HPR := Lib.hid hpr
    by_cases hx : nxt ≤ x.val
    · have hxi : (nxt : Int) ≤ (x.val : Nat) := by omega
      have HT := Lib.hid (callsIn_wide.2 (ftake_any (HAT.out.below hB) HF.out x.val (by have := x.isLt; omega) hnm (HLL.out _)) : CallsIn Fence.wide 3 _ _ _ _ _)
      have HRW := Lib.hid hrow
      clear hrow hI hB hpr hlt
      gi_wp2_with fail
      refine ⟨trivial, HT.out.mono ?_⟩
      rintro e W2 ⟨v, rfl, hs, hg, hr⟩
      have hi2 := nx_grown HW.out hg HL.out
      have f2 := hi2.f.cell
      have c2 := hi2.v.cell
      have c3 := hi2.n.cell
      have c4 := hi2.s.cell
      have z2 := hi2.v.frozen
      have z3 := hi2.n.frozen
      have z4 := hi2.s.frozen
      have hs2 := hs.weak (M' := (· < w.heap.size)) (fun k h => Nat.lt_of_lt_of_le h HBW.out.size)
      have HN := Lib.hid (nxs_set hi2 HL.out hs2 (grown_below HBW.out hg) hr)
      have HKO := Lib.hid (KeepsOthers.of_grownBy hg (fun j o e ho => by injection e with e; subst e; rw [HRW.out] at ho; injection ho with ho; subst ho; rfl))
      obtain ⟨A, ev⟩ := hs.slice_
      generalize ((J.look s.now (R.key nm x.val)).getD []).length = vl at ev
      subst ev
      clear hs hg hr hi2 hs2 HT hc f1
      gi_wp2
      exact ⟨((HKO.out.trans (KeepsOthers.setCell _ _ _)).trans (KeepsOthers.setCell _ _ _)).trans (KeepsOthers.setCell _ _ _), rfl, pr, x, _, rfl, HPR.out, hx, ⟨HN.out.1, HN.out.2.1, HN.out.2.2.1, HN.out.2.2.2⟩⟩
    · have hxi : ¬ (nxt : Int) ≤ (x.val : Nat) := by omega
      clear hrow hI hB hpr hlt
      gi_wp2
      exact ⟨KeepsOthers.refl W, kpG_refl _ W, (fun y hy => by
        rcases List.mem_append.1 hy with h | h
        · exact HPR.out y h
        · simp at h; subst h; exact Nat.lt_of_not_le hx), HW.out, HBW.out⟩
  case done =>
    rintro D ys W hD rfl ⟨hpr, hI, hB⟩ hK
    have hrow := (hB.block pf HL.out).trans (HAT.out.get HF.out)
    have hno : ys.find? (fun x => decide (nxt ≤ x.val)) = none := List.find?_eq_none.2 (fun y hy => by have := hpr y hy; simpa using this)
    have HNO := Lib.hid hno
    have HW := Lib.hid hI
    have HBW := Lib.hid hB
    have HRW := Lib.hid hrow
    have HKD := Lib.hid hK
    have f1 := hI.f.cell
    clear hno hpr hI hB hK HST
    gi_wp2_with fail
    refine wpIn_mono (Q := OnN _) ?_ (fun _ _ _ h => h.2)
    refine wpIn_wide.2 ?_
    refine wp_region_pm 5 (.rd 0 (.rd 1 (.rd 2 (.rd 3 (.wr 4 .fin))))) (fun w' => w'.cell? ⟨w.heap.size, 0, none⟩ = some (.pointer (some ⟨pf, 0, none⟩))) (by kernel_rfl) (by kernel_rfl) (fun c a d v w h => by cases h.1) f1 ?_
    repeat
      refine wpPm_read (v := ?_) (by rfl) (by rfl) (fun w' hS => ?_) (fun K hK => ?_)
      rotate_left
      · have hcb := hS
        clear hS
        go_simp
        try with_reducible rfl
      go_simp
      refine hK _ ?_
      clear hK K
    have hc := fun j => cell_of_row W pf j _ _ _ hrow
    have hz := frozen_row hrow
    refine wpPm_write (by rfl) (fun K hK => ?_)
    go_simp
    refine hK.out _ _ (fun w' => w'.cell? ⟨w.heap.size, 0, none⟩ = some (.pointer (some ⟨pf, 0, none⟩))) (fun _ h => h) (boxed_any HW.out.f (by have := HL.out; omega) 5 _).cell ?_
    clear hK K
    show wpList _ _ _ _ _ _
    go_wp2
    refine ⟨rfl, ?_⟩
    simp only [Exit.then]
    have hi2 : NxI w pf (.slice none 0 0) 0 ⟨#[]⟩ (((W.setCell ⟨pf, 5, none⟩ (.int .i64 0)).setCell ⟨pf, 6, none⟩ (.int .i64 0)).drew) := by
      have h := nx_pf (nx_pf HW.out HL.out 5 (.int .i64 0)) HL.out 6 (.int .i64 0)
      exact ⟨h.f, h.v, h.n, h.s⟩
    have hg2 : w.grownBy (((W.setCell ⟨pf, 5, none⟩ (.int .i64 0)).setCell ⟨pf, 6, none⟩ (.int .i64 0)).drew) (some pf) := by
      have g := grown_below HBW.out (file_two_row hrow 0 0).1
      exact ⟨g.os, g.tape, g.output, g.size, g.block⟩
    have hr2 : (((W.setCell ⟨pf, 5, none⟩ (.int .i64 0)).setCell ⟨pf, 6, none⟩ (.int .i64 0)).drew).heap[pf]? = some (fileO p nm rel size mode 0 0) := (file_two_row hrow 0 0).2
    have hpD : pf < D := Nat.lt_of_lt_of_le HL.out (Nat.le_trans HB6.out.size hD)
    have hk2 : (((W.setCell ⟨pf, 5, none⟩ (.int .i64 0)).setCell ⟨pf, 6, none⟩ (.int .i64 0)).drew).heap[D]? = some (.deferred (some [])) := (Below.heap_setCell _ ⟨pf, 6, none⟩ _ D (by show D ≠ pf; omega)).trans ((Below.heap_setCell _ ⟨pf, 5, none⟩ _ D (by show D ≠ pf; omega)).trans HKD.out)
    have hDD : w.heap.size + 4 ≤ D := Nat.le_trans (by have := HI6.out.s.lt; omega) hD
    generalize (((W.setCell ⟨pf, 5, none⟩ (.int .i64 0)).setCell ⟨pf, 6, none⟩ (.int .i64 0)).drew) = W2 at hi2 hg2 hr2 hk2 ⊢
    have f2 := hi2.f.cell
    have c2 := hi2.v.cell
    have c3 := hi2.n.cell
    have c4 := hi2.s.cell
    have z2 := hi2.v.frozen
    have z3 := hi2.n.frozen
    have z4 := hi2.s.frozen
    have hi3 := nx_set hi2 (v' := .slice none 0 0) (n' := 0) (st' := ⟨#[49, 48]⟩)
    have hg3 := grown_other (grown_other (grown_other hg2 (c := w.heap.size + 1) (by omega) 0 (.slice none 0 0)) (c := w.heap.size + 1 + 1) (by omega) 0 (.int .i64 0)) (c := w.heap.size + 1 + 1 + 1) (by omega) 0 (.string ⟨#[49, 48]⟩)
    have hlt := HL.out
    have hr3 : (((W2.setCell ⟨w.heap.size + 1, 0, none⟩ (.slice none 0 0)).setCell ⟨w.heap.size + 1 + 1, 0, none⟩ (.int .i64 0)).setCell ⟨w.heap.size + 1 + 1 + 1, 0, none⟩ (.string ⟨#[49, 48]⟩)).heap[pf]? = some (fileO p nm rel size mode 0 0) := by
      rw [Below.heap_setCell _ _ _ pf (by show pf ≠ w.heap.size + 1 + 1 + 1; omega), Below.heap_setCell _ _ _ pf (by show pf ≠ w.heap.size + 1 + 1; omega), Below.heap_setCell _ _ _ pf (by show pf ≠ w.heap.size + 1; omega)]; exact hr2
    have hk3 : (((W2.setCell ⟨w.heap.size + 1, 0, none⟩ (.slice none 0 0)).setCell ⟨w.heap.size + 1 + 1, 0, none⟩ (.int .i64 0)).setCell ⟨w.heap.size + 1 + 1 + 1, 0, none⟩ (.string ⟨#[49, 48]⟩)).heap[D]? = some (.deferred (some [])) := by
      rw [Below.heap_setCell _ _ _ D (by show D ≠ w.heap.size + 1 + 1 + 1; omega), Below.heap_setCell _ _ _ D (by show D ≠ w.heap.size + 1 + 1; omega), Below.heap_setCell _ _ _ D (by show D ≠ w.heap.size + 1; omega)]; exact hk2
    have HI3 := Lib.hid hi3
    have HG3 := Lib.hid hg3
    have HR3 := Lib.hid hr3
    have HK3 := Lib.hid hk3
    clear hi2 hg2 hr2 hk2 hi3 hg3 hr3 hk3 hrow hc hz f1 HRW HKD hpD hDD hlt
    gi_wp2
    refine ⟨by simp, .inl ⟨_, _, rfl, run_takeDeferred HK3.out, ?_⟩⟩
    have hF := nx_own (β := Unit) w6.heap.size w _ _ _ () _ _ (some D) HI3.out (grownBy_putObj' _ D (.deferred none)) (fun r e => by cases e; exact ⟨hD, _, HK3.out, rfl⟩)
    have hG := grown_own (β := Unit) w pf w6.heap.size HB6.out.size () _ _ (some D) HG3.out (grownBy_putObj' _ D (.deferred none)) (fun r e => by cases e; exact ⟨hD, _, HK3.out, rfl⟩)
    have hR := row_own (β := Unit) w6.heap.size pf _ _ _ () _ _ (some D) HR3.out (grownBy_putObj' _ D (.deferred none)) (fun r e => by cases e; exact ⟨hD, _, HK3.out, rfl⟩)
    refine ⟨_, nx_results hF _ rfl rfl rfl, ?_⟩
    rw [HNO.out]
    exact ⟨rfl, hG, hR⟩
  case stop =>
    rintro D c pr W hD hpre ⟨rfl, q, x, v, rfl, hq, hx, hI⟩ hK
    have hsm : ns.find? (fun x => decide (nxt ≤ x.val)) = some x := by
      obtain ⟨t, ht⟩ := hpre
      rw [← ht, List.append_assoc, List.find?_append, List.find?_eq_none.2 (fun y hy => by have := hq y hy; simpa using this)]
      simp [hx]
    gi_wp2
    refine ⟨by simp, .inl ⟨_, _, rfl, run_takeDeferred hK, ?_⟩⟩
    have hF := nxs_own (β := Unit) w6.heap.size HB6.out.size x v () _ _ (some D) hI (grownBy_putObj' _ D (.deferred none)) (fun r e => by cases e; exact ⟨hD, _, hK, rfl⟩)
    refine ⟨_, nx_results hF.i _ rfl rfl rfl, ?_⟩
    rw [hsm]
    exact ⟨v, rfl, hF.slc, hF.grown, hF.row⟩
end
end Go.Proofs.YtjbepnkchoaipaaGreat
/- Law 31: Read. -/
namespace Go.Proofs.YtjbepnkchoaipaaGreat
open Go.RowKit Go.Lib Go.Maps Go.WideMaps Go.Sort
set_option maxRecDepth 100000
section
variable {w0 : World} {p pf : Nat} {nm : J.B} {rel : Bool} {size mode nxt last : Nat} {w : World} {s : J.St} {fs : List (Nat × Obj)}
theorem read_shut (h : w.heap[pf]? = some (fileO p nm rel size mode nxt last)) (k : Int) (hs : chk [52, 55] true 1 3 rel mode ≠ [48, 48]) :
    Calls Tryz.prog 26 #[.pointer (some ⟨pf, 0, none⟩), .int .i64 k] w fun e w' => e = .returned (.tuple #[.slice none 0 0, .string ⟨(chk [52, 55] true 1 3 rel mode).toArray⟩]) ∧ w = w' := by
  have HCK := Lib.hid (fcheck_any (wrong := [52, 55]) (need := true) (a := 1) (b := 3) h)
  have hne := chk_ne hs
  generalize (⟨(chk [52, 55] true 1 3 rel mode).toArray⟩ : ByteArray) = st at HCK hne ⊢
  clear hs h
  go_enter Tryz.func26, Tryz.ntmps26
  go_wp2_with fail
  refine HCK.out.mono ?_
  rintro e w1 ⟨rfl, rfl⟩
  clear HCK
  go_wp2
  go_ret2
  exact ⟨rfl, rfl⟩
theorem read_some (h : At w0 p ((pf, fileO p nm rel size mode nxt last) :: fs) s w) (hf : ∀ x ∈ fs, x.1 ≠ pf) (ht : J.Two s) (n : Nat) (h1 : 1 ≤ n) (h2 : n ≤ 65536) (hnm : nm.length ≤ 100) (l : J.B) (hlk : J.look s.now (R.key nm n) = some l) (hll : l.length ≤ 90000000) (hs : chk [52, 55] true 1 3 rel mode = [48, 48]) :
    Calls Tryz.prog 26 #[.pointer (some ⟨pf, 0, none⟩), .int .i64 (n : Nat)] w fun e w' => ∃ v, e = .returned (.tuple #[v, .string ⟨#[48, 48]⟩]) ∧ Slc w' (· < w.heap.size) v l ∧ At w0 p ((pf, fileO p nm rel size mode (n + 1) n) :: fs) s w' := by
  have hrow := h.get List.mem_cons_self
  have hck := fcheck_any (wrong := [52, 55]) (need := true) (a := 1) (b := 3) hrow
  rw [hs] at hck
  have HCK := Lib.hid hck
  have hl' : ∀ l', J.look s.now (R.key nm n) = some l' → l'.length ≤ 90000000 := fun l' e => by rw [hlk] at e; injection e with e; subst e; exact hll
  have hA := file_two h hf ht 0 0 (w' := w)
  have HRC := Lib.hid (frecord_any hA List.mem_cons_self (n : Nat) hnm (by rw [num32_nat (by omega)]; exact hl'))
  rw [num32_nat (by omega), hlk] at HRC
  have HTK := Lib.hid (fun w2 (ha : At w0 p ((pf, fileO p nm rel size mode 0 0) :: fs) s w2) => ftake_any ha List.mem_cons_self n h2 hnm hl')
  rw [hlk] at HTK
  have HF := Lib.hid hf
  have HT := Lib.hid ht
  have hc := fun j => cell_of_row w pf j _ _ _ hrow
  have hz := frozen_row hrow
  have n1 : ¬ (n : Int) < 1 := by omega
  have n2 : ¬ (65536 : Int) < (n : Int) := by omega
  have hsz : ((w.setCell ⟨pf, 5, none⟩ (.int .i64 0)).setCell ⟨pf, 6, none⟩ (.int .i64 0)).heap.size = w.heap.size := by simp [World.setCell]
  have HSZ := Lib.hid hsz
  clear h hf ht hs hck hl' hA hlk hll hsz
  go_enter Tryz.func26, Tryz.ntmps26
  go_wp2_with fail
  refine HCK.out.mono ?_
  rintro e w1 ⟨rfl, rfl⟩
  clear HCK
  go_wp2_with fail
  refine HRC.out.mono ?_
  rintro e w2 ⟨v, rfl, _, ha, hb⟩
  have HTW := Lib.hid (HTK.out w2 ha)
  have HA2 := Lib.hid ha
  have HB2 := Lib.hid hb
  clear ha hb HRC HTK hc hz
  go_wp2_with fail
  refine HTW.out.mono ?_
  rintro e w3 ⟨v3, rfl, hs3, hg3, hr3⟩
  have H3 := Lib.hid (file_at HA2.out HF.out HT.out hg3 hr3)
  have HS3 := Lib.hid (hs3.weak (M' := (· < w.heap.size)) (fun k hk => Nat.lt_of_lt_of_le hk (Nat.le_trans (Nat.le_of_eq HSZ.out.symm) HB2.out.size)))
  clear hs3 hg3 hr3 HTW
  go_wp2
  go_ret2
  exact ⟨_, rfl, HS3.out, H3.out⟩
theorem read_none (h : At w0 p ((pf, fileO p nm rel size mode nxt last) :: fs) s w) (hf : ∀ x ∈ fs, x.1 ≠ pf) (ht : J.Two s) (k : Int) (hnm : nm.length ≤ 100) (hlk : J.look s.now (R.key nm (num32 k)) = none) (hs : chk [52, 55] true 1 3 rel mode = [48, 48]) :
    Calls Tryz.prog 26 #[.pointer (some ⟨pf, 0, none⟩), .int .i64 k] w fun e w' => e = .returned (.tuple #[.slice none 0 0, .string ⟨#[50, 51]⟩]) ∧ At w0 p ((pf, fileO p nm rel size mode 0 0) :: fs) s w' := by
  have hrow := h.get List.mem_cons_self
  have hck := fcheck_any (wrong := [52, 55]) (need := true) (a := 1) (b := 3) hrow
  rw [hs] at hck
  have HCK := Lib.hid hck
  have hA := file_two h hf ht 0 0 (w' := w)
  have HRC := Lib.hid (frecord_any hA List.mem_cons_self k hnm (by rw [hlk]; intro l' e; cases e))
  rw [hlk] at HRC
  have hc := fun j => cell_of_row w pf j _ _ _ hrow
  have hz := frozen_row hrow
  clear h hf ht hs hck hA hlk
  go_enter Tryz.func26, Tryz.ntmps26
  go_wp2_with fail
  refine HCK.out.mono ?_
  rintro e w1 ⟨rfl, rfl⟩
  clear HCK
  go_wp2_with fail
  refine HRC.out.mono ?_
  rintro e w2 ⟨v, rfl, _, ha, _⟩
  have HA2 := Lib.hid ha
  clear ha HRC hc hz
  go_wp2
  go_ret2
  exact ⟨rfl, HA2.out⟩
end
end Go.Proofs.YtjbepnkchoaipaaGreat
/- Law 31: Write. -/
namespace Go.Proofs.YtjbepnkchoaipaaGreat
open Go.RowKit Go.Lib Go.Maps Go.WideMaps Go.Sort
set_option maxRecDepth 100000
section
variable {w0 : World} {p pf : Nat} {nm : J.B} {rel : Bool} {size mode nxt last : Nat} {w : World} {s s1 s2 : J.St} {fs : List (Nat × Obj)}
/-- The record that was read last is forgotten. -/
theorem file_one (h : At w0 p ((pf, fileO p nm rel size mode nxt last) :: fs) s w) (hf : ∀ x ∈ fs, x.1 ≠ pf) (ht : J.Two s) (b : Nat) :
    At w0 p ((pf, fileO p nm rel size mode nxt b) :: fs) s (w.setCell ⟨pf, 6, none⟩ (.int .i64 b)) := by
  have h0 := h.get List.mem_cons_self
  exact h.turn hf ht (file_noBy h0) (grown_set (World.grownBy.refl w _) 6 _) (blk_set h0 6 _)
theorem write_shut (h : w.heap[pf]? = some (fileO p nm rel size mode nxt last)) (k : Int) (A : Option Addr) (l c : Nat) (hs : chk [52, 56] true 2 3 rel mode ≠ [48, 48]) :
    Calls Tryz.prog 23 #[.pointer (some ⟨pf, 0, none⟩), .int .i64 k, .slice A l c] w fun e w' => e = .returned (.string ⟨(chk [52, 56] true 2 3 rel mode).toArray⟩) ∧ w = w' := by
  have HCK := Lib.hid (fcheck_any (wrong := [52, 56]) (need := true) (a := 2) (b := 3) h)
  have hne := chk_ne hs
  generalize (⟨(chk [52, 56] true 2 3 rel mode).toArray⟩ : ByteArray) = st at HCK hne ⊢
  clear hs h
  go_enter Tryz.func23, Tryz.ntmps23
  go_wp2_with fail
  refine HCK.out.mono ?_
  rintro e w1 ⟨rfl, rfl⟩
  clear HCK
  go_wp2
  go_ret
  exact ⟨rfl, rfl⟩
theorem write_long (h : At w0 p ((pf, fileO p nm rel size mode nxt last) :: fs) s w) (hf : ∀ x ∈ fs, x.1 ≠ pf) (ht : J.Two s) (k : Int) (A : Option Addr) (l c : Nat) (hl : ¬ (0 < l ∧ l ≤ size)) (hs : chk [52, 56] true 2 3 rel mode = [48, 48]) :
    Calls Tryz.prog 23 #[.pointer (some ⟨pf, 0, none⟩), .int .i64 k, .slice A l c] w fun e w' => e = .returned (.string ⟨#[52, 52]⟩) ∧ At w0 p ((pf, fileO p nm rel size mode nxt 0) :: fs) s w' := by
  have hrow := h.get List.mem_cons_self
  have hck := fcheck_any (wrong := [52, 56]) (need := true) (a := 2) (b := 3) hrow
  rw [hs] at hck
  have HCK := Lib.hid hck
  have hA := file_one h hf ht 0
  have HFI := Lib.hid (fits_any (hA.get List.mem_cons_self) A l c)
  rw [decide_eq_false hl] at HFI
  have HA := Lib.hid hA
  have hc := fun j => cell_of_row w pf j _ _ _ hrow
  have hz := frozen_row hrow
  clear h hf ht hs hck hA hl
  go_enter Tryz.func23, Tryz.ntmps23
  go_wp2_with fail
  refine HCK.out.mono ?_
  rintro e w1 ⟨rfl, rfl⟩
  clear HCK
  go_wp2_with fail
  refine HFI.out.mono ?_
  rintro e w2 ⟨rfl, hw⟩
  clear HFI
  subst hw
  go_wp2
  go_ret
  exact ⟨rfl, HA.out⟩
theorem write_full (h : At w0 p ((pf, fileO p nm rel size mode nxt last) :: fs) s w) (hf : ∀ x ∈ fs, x.1 ≠ pf) (ht : J.Two s) (k : Int) (A : Option Addr) (l c : Nat) (hl : 0 < l ∧ l ≤ size) (hk : k < 1 ∨ 65536 < k) (hs : chk [52, 56] true 2 3 rel mode = [48, 48]) :
    Calls Tryz.prog 23 #[.pointer (some ⟨pf, 0, none⟩), .int .i64 k, .slice A l c] w fun e w' => e = .returned (.string ⟨#[50, 52]⟩) ∧ At w0 p ((pf, fileO p nm rel size mode nxt 0) :: fs) s w' := by
  have hrow := h.get List.mem_cons_self
  have hck := fcheck_any (wrong := [52, 56]) (need := true) (a := 2) (b := 3) hrow
  rw [hs] at hck
  have HCK := Lib.hid hck
  have hA := file_one h hf ht 0
  have HFI := Lib.hid (fits_any (hA.get List.mem_cons_self) A l c)
  rw [decide_eq_true hl] at HFI
  have HA := Lib.hid hA
  have hc := fun j => cell_of_row w pf j _ _ _ hrow
  have hz := frozen_row hrow
  clear h hf ht hs hck hA hl
  rcases hk with hk | hk
  · go_enter Tryz.func23, Tryz.ntmps23
    go_wp2_with fail
    refine HCK.out.mono ?_
    rintro e w1 ⟨rfl, rfl⟩
    clear HCK
    go_wp2_with fail
    refine HFI.out.mono ?_
    rintro e w2 ⟨rfl, hw⟩
    clear HFI
    subst hw
    go_wp2
    go_ret
    exact ⟨rfl, HA.out⟩
  · have hk1 : ¬ k < 1 := by omega
    go_enter Tryz.func23, Tryz.ntmps23
    go_wp2_with fail
    refine HCK.out.mono ?_
    rintro e w1 ⟨rfl, rfl⟩
    clear HCK
    go_wp2_with fail
    refine HFI.out.mono ?_
    rintro e w2 ⟨rfl, hw⟩
    clear HFI
    subst hw
    go_wp2
    go_ret
    exact ⟨rfl, HA.out⟩
theorem write_there (h : At w0 p ((pf, fileO p nm rel size mode nxt last) :: fs) s w) (hf : ∀ x ∈ fs, x.1 ≠ pf) (ht : J.Two s) (n : Nat) (A : Option Addr) (l c : Nat) (hl : 0 < l ∧ l ≤ size) (h1 : 1 ≤ n) (h2 : n ≤ 65536) (hnm : nm.length ≤ 100) (v0 : J.B) (hlk : J.look s.now (R.key nm n) = some v0) (hv0 : v0.length ≤ 90000000) (hs : chk [52, 56] true 2 3 rel mode = [48, 48]) :
    Calls Tryz.prog 23 #[.pointer (some ⟨pf, 0, none⟩), .int .i64 (n : Nat), .slice A l c] w fun e w' => e = .returned (.string ⟨#[50, 50]⟩) ∧ At w0 p ((pf, fileO p nm rel size mode nxt 0) :: fs) s w' := by
  have hrow := h.get List.mem_cons_self
  have hck := fcheck_any (wrong := [52, 56]) (need := true) (a := 2) (b := 3) hrow
  rw [hs] at hck
  have HCK := Lib.hid hck
  have hA := file_one h hf ht 0
  have HFI := Lib.hid (fits_any (hA.get List.mem_cons_self) A l c)
  rw [decide_eq_true hl] at HFI
  have HRC := Lib.hid (frecord_any hA List.mem_cons_self (n : Nat) hnm (by rw [num32_nat (by omega), hlk]; intro l' e; injection e with e; subst e; exact hv0))
  rw [num32_nat (by omega), hlk] at HRC
  have hc := fun j => cell_of_row w pf j _ _ _ hrow
  have hz := frozen_row hrow
  have n1 : ¬ (n : Int) < 1 := by omega
  have n2 : ¬ (65536 : Int) < (n : Int) := by omega
  clear h hf ht hs hck hA hl hlk hv0
  go_enter Tryz.func23, Tryz.ntmps23
  go_wp2_with fail
  refine HCK.out.mono ?_
  rintro e w1 ⟨rfl, rfl⟩
  clear HCK
  go_wp2_with fail
  refine HFI.out.mono ?_
  rintro e w2 ⟨rfl, hw⟩
  clear HFI
  subst hw
  go_wp2_with fail
  refine HRC.out.mono ?_
  rintro e w3 ⟨v, rfl, _, ha, _⟩
  have HA := Lib.hid ha
  clear ha HRC hc hz
  go_wp2
  go_ret
  exact ⟨rfl, HA.out⟩
theorem write_ok (h : At w0 p ((pf, fileO p nm rel size mode nxt last) :: fs) s w) (hf : ∀ x ∈ fs, x.1 ≠ pf) (ht : J.Two s) (ho : s.opn = false) (n : Nat) (A : Option Addr) (l c : Nat) (val : J.B) (hl : 0 < l ∧ l ≤ size) (h1 : 1 ≤ n) (h2 : n ≤ 65536) (hnm : nm.length ≤ 100) (hlk : J.look s.now (R.key nm n) = none)
    (hv : ∀ gs t w1, (∀ x ∈ fs, x ∈ gs) → At w0 p gs t w1 → Sl w1 NoM (.slice A l c) val) (hvl : val.length ≤ 8192) (hr : J.add (J.begin_ s) ⟨R.key nm n, val, false⟩ = (s1, 0))
    (hcm : ∀ gs w1, At w0 p gs s1 w1 → ∃ k : Int, Calls Tryz.prog 70 #[.pointer (some ⟨p, 0, none⟩)] w1 fun e w' => e = .returned (.tuple #[.int .i64 k, .int .i64 0]) ∧ At w0 p gs s2 w')
    (hs : chk [52, 56] true 2 3 rel mode = [48, 48]) :
    Calls Tryz.prog 23 #[.pointer (some ⟨pf, 0, none⟩), .int .i64 (n : Nat), .slice A l c] w fun e w' => e = .returned (.string ⟨#[48, 48]⟩) ∧ At w0 p ((pf, fileO p nm rel size mode nxt 0) :: fs) s2 w' := by
  have hrow := h.get List.mem_cons_self
  have hck := fcheck_any (wrong := [52, 56]) (need := true) (a := 2) (b := 3) hrow
  rw [hs] at hck
  have HCK := Lib.hid hck
  have hA := file_one h hf ht 0
  have HFI := Lib.hid (fits_any (hA.get List.mem_cons_self) A l c)
  rw [decide_eq_true hl] at HFI
  have HRC := Lib.hid (frecord_any hA List.mem_cons_self (n : Nat) hnm (by rw [num32_nat (by omega), hlk]; intro l' e; cases e))
  rw [num32_nat (by omega), hlk] at HRC
  have HPU := Lib.hid (fun w2 (ha : At w0 p ((pf, fileO p nm rel size mode nxt 0) :: fs) s w2) => fput_any ha List.mem_cons_self ho n A l c val (by omega) hnm (fun gs t w1 hg => hv gs t w1 (fun x hx => hg x (List.mem_cons_of_mem _ hx))) hvl hr hcm)
  have hc := fun j => cell_of_row w pf j _ _ _ hrow
  have hz := frozen_row hrow
  have n1 : ¬ (n : Int) < 1 := by omega
  have n2 : ¬ (65536 : Int) < (n : Int) := by omega
  clear h hf ht hs hck hA hl hlk hv hr hcm
  go_enter Tryz.func23, Tryz.ntmps23
  go_wp2_with fail
  refine HCK.out.mono ?_
  rintro e w1 ⟨rfl, rfl⟩
  clear HCK
  go_wp2_with fail
  refine HFI.out.mono ?_
  rintro e w2 ⟨rfl, hw⟩
  clear HFI
  subst hw
  go_wp2_with fail
  refine HRC.out.mono ?_
  rintro e w3 ⟨v, rfl, _, ha, _⟩
  have HPW := Lib.hid (HPU.out w3 ha)
  clear ha HRC HPU hc hz
  go_wp2_with fail
  refine HPW.out.mono ?_
  rintro e w4 ⟨rfl, h4⟩
  have H4 := Lib.hid h4
  clear h4 HPW
  go_wp2
  go_ret
  exact ⟨rfl, H4.out⟩
end
end Go.Proofs.YtjbepnkchoaipaaGreat
