import Derived.Test.YtjbepnkchoaipaaGreatM39
import Derived.Scope
import Derived.WalkMore
import Derived.Test.YtjbepnkchoaipaaGreatM33
set_option linter.unusedVariables false
set_option linter.unusedSimpArgs false
/- A scope within a fence: no jump is taken. -/
namespace Go.Proofs.YtjbepnkchoaipaaGreat
open Go
section
variable {F : Fence} {n : Nat} {P : Program} {b : Frame} {a : Act} {k : List Item} {cs : List Frame} {w : World} {Q : Exit → Act → World → Prop}
theorem stepR_scope {c : Code} : step P (lone (b.atR a (.code (.scope c) :: k)) cs w) = .next (lone (b.atR a (.code c :: .inScope c :: k)) cs w) :=
  step_lone_go (by simp [stepG, stepG.exec, Frame.atR])
theorem stepR_inScope {c : Code} : step P (lone (b.atR a (.inScope c :: k)) cs w) = .next (lone (b.atR a k) cs w) :=
  step_lone_go (by simp [stepG, stepG.exec, Frame.atR])
theorem wpIn_scope_straight {c : Code} (h : c.wpIn F n P (Exit.noGoto Q) a w) : (Code.scope c).wpIn F n P Q a w := by
  intro b k cs hro hb hr
  have h0 : (lone (b.atR a (.code (.scope c) :: k)) cs w).fenced P F := fenced_calm hb hr rfl
  obtain ⟨e, a₁, w₁, hq, harr⟩ := h b (.inScope c :: k) cs hro hb hr
  cases e with
  | normal => exact ⟨.normal, a₁, w₁, hq, .head h0 stepR_scope (StepsIn.trans harr (.one (fenced_calm hb hr rfl) stepR_inScope))⟩
  | exit id =>
    have hx : exitTo id (.inScope c :: k) = exitTo id k := by simp [exitTo]
    exact ⟨_, a₁, w₁, hq, fun k' hk => .head h0 stepR_scope (harr.1 k' (by rw [hx]; exact hk)),
      fun hr' hk => let ⟨k₁, h1, h2⟩ := harr.2 hr' (by rw [hx]; exact hk); ⟨k₁, h1, .head h0 stepR_scope h2⟩⟩
  | goto l => exact hq.elim
  | ret => exact ⟨_, a₁, w₁, hq, .of_steps (.one h0 stepR_scope) harr⟩
  | panic ch => exact ⟨_, a₁, w₁, hq, .of_steps (.one h0 stepR_scope) harr⟩
  | outgrown => exact ⟨_, a₁, w₁, hq, .of_steps (.one h0 stepR_scope) harr⟩
theorem store_func (fn : Fn) (first captured : Array Value) (x : Addr) (m : Mode) : (store x (.func fn first captured) m).run P w = stored P w x (.func fn first captured) m := run_store P w x _ m rfl
end
end Go.Proofs.YtjbepnkchoaipaaGreat
/- Law 31: Start. -/
namespace Go.Proofs.YtjbepnkchoaipaaGreat
open Go.RowKit Go.Lib Go.Maps Go.WideMaps Go.Sort Go.Shelf
set_option maxRecDepth 100000
attribute [local go_sem] Oper.semAt_some store_func
section
variable {w0 : World} {p pf : Nat} {nm : J.B} {rel : Bool} {size mode nxt last : Nat} {w : World} {s : J.St} {fs : List (Nat × Obj)}
/-- The boxes of Start. -/
structure St3 (w : World) (pf r : Nat) (k : Int) (W : World) : Prop where
  f : Boxed W w.heap.size 27 (.pointer (some ⟨pf, 0, none⟩))
  r : Boxed W (w.heap.size + 1) 77 (.int .u8 (r : Nat))
  n : Boxed W (w.heap.size + 1 + 1) 3 (.int .i64 k)
abbrev w3 (w : World) (pf r : Nat) (k : Int) : World := ((w.alloc (.cells #[.pointer (some ⟨pf, 0, none⟩)] 27)).alloc (.cells #[.int .u8 (r : Nat)] 77)).alloc (.cells #[.int .i64 k] 3)
theorem st3_new (w : World) (pf r : Nat) (k : Int) : St3 w pf r k (w3 w pf r k) := by
  refine ⟨?_, ?_, ?_⟩
  · exact ((Boxed.new w 27 (.pointer (some ⟨pf, 0, none⟩))).alloc _).alloc _
  · have := (Boxed.new (w.alloc (.cells #[.pointer (some ⟨pf, 0, none⟩)] 27)) 77 (.int .u8 (r : Nat))).alloc (.cells #[.int .i64 k] 3)
    simpa using this
  · have := Boxed.new ((w.alloc (.cells #[.pointer (some ⟨pf, 0, none⟩)] 27)).alloc (.cells #[.int .u8 (r : Nat)] 77)) 3 (.int .i64 k)
    simpa using this
theorem st3_below (w : World) (pf r : Nat) (k : Int) : Below w.heap.size w (w3 w pf r k) := (((Below.refl _ w).alloc (Nat.le_refl _) _).alloc (by simp) _).alloc (by simp; omega) _
theorem st3_pf {W : World} {r : Nat} {k : Int} (h : St3 w pf r k W) (hl : pf < w.heap.size) (i : Nat) (u : Value) : St3 w pf r k (W.setCell ⟨pf, i, none⟩ u) :=
  ⟨boxed_any h.f (by omega) i u, boxed_any h.r (by omega) i u, boxed_any h.n (by omega) i u⟩
theorem start_shut (h : w.heap[pf]? = some (fileO p nm rel size mode nxt last)) (r : Nat) (k : Int) (hs : chk [52, 55] true 1 3 rel mode ≠ [48, 48]) :
    Calls Tryz.prog 27 #[.pointer (some ⟨pf, 0, none⟩), .int .u8 (r : Nat), .int .i64 k] w fun e w' => e = .returned (.string ⟨(chk [52, 55] true 1 3 rel mode).toArray⟩) ∧ Below w.heap.size w w' := by
  have hb := st3_below w pf r k
  have hi := st3_new w pf r k
  have hck := fcheck_any (wrong := [52, 55]) (need := true) (a := 1) (b := 3) ((hb.block pf (Array.getElem?_eq_some_iff.1 h).1).trans h)
  generalize hw3 : w3 w pf r k = w3 at hb hi hck
  have HCK := Lib.hid hck
  have hne := chk_ne hs
  generalize (⟨(chk [52, 55] true 1 3 rel mode).toArray⟩ : ByteArray) = st at HCK hne ⊢
  have h1 := hi.f.cell
  have HB := Lib.hid hb
  clear hs h hb hi hck
  go_enter Tryz.func27, Tryz.ntmps27
  go_wp2
  go_step3
  go_wp2_with fail
  refine HCK.out.mono ?_
  rintro e w1 ⟨rfl, hw⟩
  clear HCK
  subst hw
  go_wp2
  try rw [Exit.noGoto_ret]
  go_ret
  exact ⟨rfl, HB.out⟩
/-- The number that is found among numbers. -/
def stN (r : Nat) (k : Int) (ns : List Nm) : Nat := match (if r = 3 ∨ r = 4 then ns.reverse.find? (fun x => holds r x.val k) else ns.find? (fun x => holds r x.val k)) with
  | some x => x.val
  | none => 0
theorem stN_nil (r : Nat) (k : Int) : stN r k [] = 0 := by unfold stN; split <;> rename_i h <;> split at h <;> first | (simp at h; done) | rfl
theorem stN_no {r : Nat} {k : Int} {pr : List Nm} {x : Nm} (h : holds r x.val k = false) : stN r k (pr ++ [x]) = stN r k pr := by
  unfold stN
  have e1 : (pr ++ [x]).reverse.find? (fun x => holds r x.val k) = pr.reverse.find? (fun x => holds r x.val k) := by
    rw [List.reverse_append, List.reverse_singleton, List.singleton_append, List.find?_cons, h]
  have e2 : (pr ++ [x]).find? (fun x => holds r x.val k) = pr.find? (fun x => holds r x.val k) := by
    rw [List.find?_append, List.find?_cons, h, List.find?_nil, Option.or_none]
  rw [e1, e2]
theorem stN_last {r : Nat} {k : Int} {pr : List Nm} {x : Nm} (hr : r = 3 ∨ r = 4) (h : holds r x.val k = true) : stN r k (pr ++ [x]) = x.val := by
  unfold stN
  rw [if_pos hr, List.reverse_append, List.reverse_singleton, List.singleton_append, List.find?_cons, h]
theorem stN_first {r : Nat} {k : Int} {q ns : List Nm} {x : Nm} (hr : ¬ (r = 3 ∨ r = 4)) (hq : ∀ y ∈ q, holds r y.val k = false) (h : holds r x.val k = true) (hp : q ++ [x] <+: ns) : stN r k ns = x.val := by
  obtain ⟨t, rfl⟩ := hp
  unfold stN
  rw [if_neg hr, List.append_assoc, List.find?_append, List.find?_eq_none.2 (fun y hy => by rw [hq y hy]; decide)]
  simp [h]
/-- What holds in Start's loop. -/
structure StI (w : World) (pf p : Nat) (nm : J.B) (rel : Bool) (size mode r : Nat) (k : Int) (B : Nat) (n : Nat) (W : World) : Prop where
  b : St3 w pf r k W
  h : Boxed W B 122 (.func (.func 63) #[.int .u8 (r : Nat)] #[])
  g : w.grownBy W (some pf)
  row : W.heap[pf]? = some (fileO p nm rel size mode n 0)
theorem sti_own {β : Type} (B0 B : Nat) {r : Nat} {k : Int} (f : β → Nat) (hB : w.heap.size ≤ B) : OwnFrom (β := β) B (fun x W => StI w pf p nm rel size mode r k B0 (f x) W) := fun x W W' row h hg hr =>
  ⟨⟨boxed_own B _ _ _ x W W' row h.b.f hg hr, boxed_own B _ _ _ x W W' row h.b.r hg hr, boxed_own B _ _ _ x W W' row h.b.n hg hr⟩, boxed_own B _ _ _ x W W' row h.h hg hr, grown_own w pf B hB x W W' row h.g hg hr, row_own B pf _ _ _ x W W' row h.row hg hr⟩
theorem sti_set {W : World} {r : Nat} {k : Int} {B n : Nat} (h : StI w pf p nm rel size mode r k B n W) (hl : pf < w.heap.size) (hB : B ≠ pf) (x : Nat) : StI w pf p nm rel size mode r k B x (W.setCell ⟨pf, 5, none⟩ (.int .i64 (x : Nat))) :=
  ⟨st3_pf h.b hl 5 _, boxed_any h.h hB 5 _, grown_set h.g 5 _, blk_set h.row 5 _⟩
structure StL (w : World) (pf p : Nat) (nm : J.B) (rel : Bool) (size mode r : Nat) (k : Int) (B : Nat) (pr : List Nm) (W : World) : Prop where
  i : StI w pf p nm rel size mode r k B (stN r k pr) W
  no : ¬ (r = 3 ∨ r = 4) → ∀ y ∈ pr, holds r y.val k = false
structure StX (w : World) (pf p : Nat) (nm : J.B) (rel : Bool) (size mode r : Nat) (k : Int) (B : Nat) (c : Code) (pr : List Nm) (W : World) : Prop where
  i : StI w pf p nm rel size mode r k B (stN r k pr) W
  c : c = .exit 0
  al : ∀ ys, pr <+: ys → stN r k ys = stN r k pr
theorem stl_own (B0 B : Nat) {r : Nat} {k : Int} (hB : w.heap.size ≤ B) : OwnFrom B (StL w pf p nm rel size mode r k B0) := fun x W W' row h hg hr =>
  ⟨sti_own (β := List Nm) B0 B (fun pr => stN r k pr) hB x W W' row h.i hg hr, h.no⟩
theorem stx_own (B0 B : Nat) {r : Nat} {k : Int} (hB : w.heap.size ≤ B) (c : Code) : OwnFrom B (StX w pf p nm rel size mode r k B0 c) := fun x W W' row h hg hr =>
  ⟨sti_own (β := List Nm) B0 B (fun pr => stN r k pr) hB x W W' row h.i hg hr, h.c, h.al⟩
theorem kpg_row {W : World} {mode n la : Nat} (h : W.heap[pf]? = some (fileO p nm rel size mode n la)) (x : Nat) : KpG (fun _ => (· = pf)) pf p nm rel size W (W.setCell ⟨pf, 5, none⟩ (.int .i64 (x : Nat))) :=
  ⟨⟨fun j q hq _ hn => (Below.heap_setCell W ⟨pf, 5, none⟩ _ j hn).trans hq, by simp [World.setCell], fun _ _ h => h⟩, fun _ _ _ _ => ⟨mode, x, la, blk_set h 5 _⟩⟩
theorem start_go (ns : List Nm) (h : At w0 p ((pf, fileO p nm rel size mode nxt last) :: fs) s w) (hf : ∀ x ∈ fs, x.1 ≠ pf) (ht : J.Two s) (r : Nat) (k : Int) (hr5 : r ≤ 5) (hnm : nm.length ≤ 100) (hml : s.now.length ≤ 1000000)
    (hk : keysOf s.now ⟨(R.recs nm).toArray⟩ = ns.map fun x => R.key nm x.val) (hpos : ∀ x ∈ ns, 1 ≤ x.val) (hs : chk [52, 55] true 1 3 rel mode = [48, 48])
    (Q : Ending → World → Prop) (hQ : ∀ W', w.grownBy W' (some pf) → W'.heap[pf]? = some (fileO p nm rel size mode (stN r k ns) 0) → Q (.returned (.string ⟨(if stN r k ns = 0 then [50, 51] else [48, 48] : J.B).toArray⟩)) W') :
    CallsIn Fence.wide 6 Tryz.prog 27 #[.pointer (some ⟨pf, 0, none⟩), .int .u8 (r : Nat), .int .i64 k] w Q := by
  have h0 := h.get List.mem_cons_self
  have hlt := (Array.getElem?_eq_some_iff.1 h0).1
  have hb := st3_below w pf r k
  have hi := st3_new w pf r k
  have hr3 := (hb.block pf hlt).trans h0
  have hck := fcheck_any (wrong := [52, 55]) (need := true) (a := 1) (b := 3) hr3
  rw [hs] at hck
  generalize hw3 : w3 w pf r k = w3 at hb hi hck hr3
  have HCK := Lib.hid (callsIn_wide.2 hck : CallsIn Fence.wide 5 _ _ _ _ _)
  have h1 := hi.f.cell
  have HI := Lib.hid hi
  have HB := Lib.hid hb
  have HL := Lib.hid hlt
  have HAT := Lib.hid h
  have HF := Lib.hid hf
  have HT := Lib.hid ht
  have HK := Lib.hid hk
  have HP := Lib.hid hpos
  have HML := Lib.hid hml
  have HR3 := Lib.hid hr3
  clear hck hs h0 hi hb hr3 hlt h hf hk hpos ht hml
  refine callsIn_of_wp_marks Tryz.func27 rfl trivial ?_ rfl
  simp only [Tryz.ntmps27, List.size_toArray, List.length_cons, List.length_nil, Nat.reduceAdd, Nat.reduceSub, Array.replicate_succ, Array.replicate_zero, List.push_toArray, List.append_toArray, List.nil_append, List.cons_append]
  gi_wp2
  refine wpIn_scope_straight ?_
  gi_wp2_with fail
  refine ⟨trivial, HCK.out.mono ?_⟩
  rintro e Y ⟨rfl, hY⟩
  subst hY
  clear hw3 HCK
  gi_wp2_with fail
  refine wpIn_mono (Q := OnN _) ?_ (fun _ _ _ h => h.2)
  refine wpIn_wide.2 ?_
  refine wp_region_pm 5 (.rd 0 (.rd 1 (.rd 2 (.rd 3 (.wr 4 .fin))))) (fun w' => w'.cell? ⟨w.heap.size, 0, none⟩ = some (.pointer (some ⟨pf, 0, none⟩))) (by kernel_rfl) (by kernel_rfl) (fun c a d v w h => by cases h.1) h1 ?_
  repeat
    refine wpPm_read (v := ?_) (by rfl) (by rfl) (fun w' hS => ?_) (fun K hK => ?_)
    rotate_left
    · have hcb := hS
      clear hS
      go_simp
      try with_reducible rfl
    go_simp
    refine hK _ ?_
    clear hK K
  have hc := fun j => cell_of_row w3 pf j _ _ _ HR3.out
  have hz := frozen_row HR3.out
  refine wpPm_write (by rfl) (fun K hK => ?_)
  go_simp
  refine hK.out _ _ (fun w' => w'.cell? ⟨w.heap.size, 0, none⟩ = some (.pointer (some ⟨pf, 0, none⟩))) (fun _ h => h) (boxed_any HI.out.f (by have := HL.out; omega) 5 _).cell ?_
  clear hK K
  show wpList _ _ _ _ _ _
  go_wp2
  refine ⟨rfl, ?_⟩
  simp only [Exit.then]
  have hi2 : St3 w pf r k (((w3.setCell ⟨pf, 5, none⟩ (.int .i64 0)).setCell ⟨pf, 6, none⟩ (.int .i64 0)).drew) := by
    have h := st3_pf (st3_pf HI.out HL.out 5 (.int .i64 0)) HL.out 6 (.int .i64 0)
    exact ⟨h.f, h.r, h.n⟩
  have hg2 : w.grownBy (((w3.setCell ⟨pf, 5, none⟩ (.int .i64 0)).setCell ⟨pf, 6, none⟩ (.int .i64 0)).drew) (some pf) := by
    have g := grown_below HB.out (file_two_row HR3.out 0 0).1
    exact ⟨g.os, g.tape, g.output, g.size, g.block⟩
  have hr2 : (((w3.setCell ⟨pf, 5, none⟩ (.int .i64 0)).setCell ⟨pf, 6, none⟩ (.int .i64 0)).drew).heap[pf]? = some (fileO p nm rel size mode 0 0) := (file_two_row HR3.out 0 0).2
  generalize (((w3.setCell ⟨pf, 5, none⟩ (.int .i64 0)).setCell ⟨pf, 6, none⟩ (.int .i64 0)).drew) = w4 at hi2 hg2 hr2 ⊢
  have h2 := hi2.r.cell
  have h3 := hi2.f.cell
  have HI4 := Lib.hid hi2
  have HG4 := Lib.hid hg2
  have HR4 := Lib.hid hr2
  clear hi2 hg2 hr2 h1 hc hz HI HB HR3
  gi_wp2_with fail
  refine wpIn_label ?_
  simp only [Exit.then]
  have hi5 : St3 w pf r k (w4.alloc (.cells #[.func (.func 63) #[.int .u8 (r : Nat)] #[]] 122)) := ⟨HI4.out.f.alloc _, HI4.out.r.alloc _, HI4.out.n.alloc _⟩
  have hb5 : Below w4.heap.size w4 (w4.alloc (.cells #[.func (.func 63) #[.int .u8 (r : Nat)] #[]] 122)) := (Below.refl _ w4).alloc (Nat.le_refl _) _
  have hx5 := Boxed.new w4 122 (.func (.func 63) #[.int .u8 (r : Nat)] #[])
  generalize w4.alloc (.cells #[.func (.func 63) #[.int .u8 (r : Nat)] #[]] 122) = w5 at hi5 hb5 hx5 ⊢
  have h5 := hi5.f.cell
  have HI5 := Lib.hid hi5
  have HB5 := Lib.hid hb5
  have HX5 := Lib.hid hx5
  clear hi5 hb5 hx5 h2 h3 HI4
  gi_wp2_with fail
  have HAL := Lib.hid (all_any pf w5)
  refine ⟨trivial, HAL.out.mono ?_⟩
  rintro e Y ⟨rfl, hY⟩
  clear HAL
  gi_wp2_with fail
  have hb6 : Below w5.heap.size w5 (w5.alloc (boxF pf)) := (Below.refl _ w5).alloc (Nat.le_refl _) _
  have hi6 : St3 w pf r k (w5.alloc (boxF pf)) := ⟨HI5.out.f.alloc _, HI5.out.r.alloc _, HI5.out.n.alloc _⟩
  have hx6 := HX5.out.alloc (boxF pf)
  have hbx := (Boxed.new w5 27 (.pointer (some ⟨pf, 0, none⟩))).cell
  have hsz6 : (w5.alloc (boxF pf)).heap.size = w5.heap.size + 1 := by simp
  have hb46 : Below w4.heap.size w4 (w5.alloc (boxF pf)) := HB5.out.trans (hb6.mono HB5.out.size)
  have hat4 := file_at HAT.out HF.out HT.out HG4.out HR4.out
  have hl4 := (Array.getElem?_eq_some_iff.1 HR4.out).1
  have hsi : StI w pf p nm rel size mode r k w4.heap.size (stN r k []) (w5.alloc (boxF pf)) := by
    rw [stN_nil]
    have hg := HG4.out
    exact ⟨hi6, hx6, ⟨hb46.os.trans hg.os, hb46.tape.trans hg.tape, hb46.output.trans hg.output, Nat.le_trans hg.size hb46.size, fun j hj hn => (hb46.block j (Nat.lt_of_lt_of_le hj hg.size)).trans (hg.block j hj hn)⟩, (hb46.block pf hl4).trans HR4.out⟩
  have hpl5 : pf < w5.heap.size := Nat.lt_of_lt_of_le hl4 HB5.out.size
  have HW4 := Lib.hid (Nat.le_trans HG4.out.size HB5.out.size)
  generalize w5.alloc (boxF pf) = w6 at hb6 hi6 hx6 hbx hsz6 hb46 hsi ⊢
  clear hY
  have HST := Lib.hid (all_stops 5 (by omega) w5.heap.size ns (· = pf) hnm (hat4.below hb46) List.mem_cons_self HML.out HK.out HP.out hbx (fun j hj => by subst hj; omega))
  have HSI := Lib.hid hsi
  have HS6 := Lib.hid (show w.heap.size ≤ w6.heap.size by have := HW4.out; omega)
  have HP6 := Lib.hid (show pf < w6.heap.size by omega)
  have HPB := Lib.hid (show w4.heap.size ≠ pf by omega)
  clear hb6 hi6 hx6 hbx hsz6 hb46 hat4 hl4 hsi hpl5 HI5 HX5 HB5 HG4 HR4 h5
  refine wpIn_rangeFunc_ownF rfl (by omega) (gf := 75) (lb := #[.pointer (some ⟨w5.heap.size, 0, none⟩)]) rfl trivial (enters_of Tryz.func75 (by kernel_rfl) rfl)
    HST.out KpG.t (fun W l o o' hl h hc _ => KpG.put (w := w6) (fun _ j hj => by have := HP6.out; subst hj; exact this) (fun _ _ _ _ _ _ h => h) W l o o' hl h hc) (Below.refl _ _) (fun _ => rfl)
    (StL w pf p nm rel size mode r k w4.heap.size)
    (StX w pf p nm rel size mode r k w4.heap.size)
    (stl_own w4.heap.size w6.heap.size HS6.out)
    (stx_own w4.heap.size w6.heap.size HS6.out)
    ⟨HSI.out, fun _ y hy => by cases hy⟩
    (fun x => { tmps := #[.pointer (some ⟨pf, 0, none⟩), .int .u8 (r : Nat), .int .i64 k, .pointer (some ⟨w.heap.size, 0, none⟩), .pointer (some ⟨w.heap.size + 1, 0, none⟩), .pointer (some ⟨w.heap.size + 1 + 1, 0, none⟩), .string ⟨#[]⟩, .string ⟨#[48, 48]⟩, .pointer (some ⟨w4.heap.size, 0, none⟩), encN x, .pointer (some ⟨pf, 0, none⟩), .string ⟨#[48, 48]⟩, .string ⟨#[48, 48]⟩, .bool false, undef, .pointer (some ⟨pf, 0, none⟩), .pointer (some ⟨pf, 0, none⟩), .pointer (some ⟨pf, 0, none⟩), .pointer (some ⟨pf, 5, none⟩), .pointer (some ⟨pf, 0, none⟩), .pointer (some ⟨pf, 6, none⟩), .int .u8 (r : Nat), .func (.func 63) #[.int .u8 (r : Nat)] #[], .pointer (some ⟨pf, 0, none⟩), .func (.func 75) #[] #[.pointer (some ⟨w5.heap.size, 0, none⟩)], encN x, undef, undef, undef, undef, undef, undef, undef, undef, undef, undef, undef, undef, undef, undef, undef, undef, undef, undef, undef, undef, undef, undef, undef, undef, undef, undef], defers := [] }) ?assign ?body ?done ?stop
  case assign =>
    intro l x W K hK
    gi_wp2
    exact hK
  case body =>
    rintro l pr x W hL hlt
    have hI := hL.i
    have hno := hL.no
    have c1 := hI.b.f.cell
    have c2 := hI.b.r.cell
    have c3 := hI.b.n.cell
    have c4 := hI.h.cell
    have hrow := hI.row
    have hc := fun j => cell_of_row W pf j _ _ _ hrow
    have hz := frozen_row hrow
    have HH := Lib.hid (callsIn_wide.2 (holds_any r x.val k W hr5) : CallsIn Fence.wide 3 _ _ _ _ _)
    have HW := Lib.hid hI
    have HNO := Lib.hid hno
    clear hI hno hlt hrow hL
    gi_wp2_with fail
    refine ⟨trivial, HH.out.mono ?_⟩
    rintro e W2 ⟨rfl, hw⟩
    subst hw
    clear HH
    cases hh : holds r x.val k with
    | false =>
      have HE := Lib.hid hh
      clear hh
      gi_wp2
      refine ⟨KeepsOthers.refl W, kpG_refl _ W, by rw [stN_no HE.out]; exact HW.out, fun hr y hy => ?_⟩
      rcases List.mem_append.1 hy with h | h
      · exact HNO.out hr y h
      · simp at h; subst h; exact HE.out
    | true =>
      have HE := Lib.hid hh
      have HS := Lib.hid (sti_set HW.out HL.out HPB.out x.val)
      have HKO := Lib.hid (KeepsOthers.setCell W ⟨pf, 5, none⟩ (.int .i64 (x.val : Nat)))
      have HKP := Lib.hid (kpg_row (p := p) (nm := nm) (rel := rel) (size := size) (W := W) HW.out.row x.val)
      clear hh
      by_cases hr : r = 3 ∨ r = 4
      · have HR := Lib.hid hr
        rcases hr with rfl | rfl
        · gi_wp2
          exact ⟨HKO.out, HKP.out, by rw [stN_last (.inl rfl) HE.out]; exact HS.out, fun h => absurd (.inl rfl) h⟩
        · gi_wp2
          exact ⟨HKO.out, HKP.out, by rw [stN_last (.inr rfl) HE.out]; exact HS.out, fun h => absurd (.inr rfl) h⟩
      · have HR := Lib.hid hr
        have r3 : ((r : Int) == 3) = false := by simp; omega
        have r4 : ((r : Int) == 4) = false := by simp; omega
        clear hr
        gi_wp2
        refine ⟨HKO.out, ⟨?_, rfl, fun ys hys => ?_⟩⟩
        · rw [stN_first HR.out (HNO.out HR.out) HE.out (List.prefix_refl _)]; exact HS.out
        · rw [stN_first HR.out (HNO.out HR.out) HE.out hys, stN_first HR.out (HNO.out HR.out) HE.out (List.prefix_refl _)]
  case done =>
    rintro D ys W hD hys hL hK
    have hI := hL.i
    subst hys
    have hpst : stN r k ys = stN r k ys := rfl
    have c1 := hI.b.f.cell
    have hc := fun j => cell_of_row W pf j _ _ _ hI.row
    have HQ := Lib.hid (hQ (W.putObj D (.deferred none)))
    have hF := sti_own (β := Unit) w4.heap.size w6.heap.size (fun _ => stN r k ys) HS6.out () _ _ (some D) hI (grownBy_putObj' _ D (.deferred none)) (fun r e => by cases e; exact ⟨hD, _, hK, rfl⟩)
    rw [hpst] at HQ
    have HFF := Lib.hid hF
    have HK2 := Lib.hid hK
    generalize stN r k ys = n at hF HFF hc HQ
    clear hI hpst hK hF HST hL
    by_cases hn : n = 0
    · subst hn
      gi_wp2
      try rw [Exit.noGoto_ret]
      refine ⟨by simp, .inl ⟨_, _, rfl, run_takeDeferred HK2.out, ?_⟩⟩
      refine ⟨_, results_tmp rfl _ _ _, ?_⟩
      exact HQ.out HFF.out.g HFF.out.row
    · have hn1 : ¬ ((n : Int) = 0) := by omega
      have HN := Lib.hid hn
      gi_wp2
      try rw [Exit.noGoto_ret]
      refine ⟨by simp, .inl ⟨_, _, rfl, run_takeDeferred HK2.out, ?_⟩⟩
      refine ⟨_, results_tmp rfl _ _ _, ?_⟩
      have h := HQ.out HFF.out.g HFF.out.row
      rw [if_neg HN.out] at h
      exact h
  case stop =>
    rintro D c pr W hD hpre hL hK
    have hI := hL.i
    have hst := hL.al
    obtain rfl := hL.c
    have hpst : stN r k ns = stN r k pr := hst ns hpre
    have c1 := hI.b.f.cell
    have hc := fun j => cell_of_row W pf j _ _ _ hI.row
    have HQ := Lib.hid (hQ (W.putObj D (.deferred none)))
    have hF := sti_own (β := Unit) w4.heap.size w6.heap.size (fun _ => stN r k pr) HS6.out () _ _ (some D) hI (grownBy_putObj' _ D (.deferred none)) (fun r e => by cases e; exact ⟨hD, _, hK, rfl⟩)
    rw [hpst] at HQ
    have HFF := Lib.hid hF
    have HK2 := Lib.hid hK
    generalize stN r k pr = n at hF HFF hc HQ
    clear hI hpst hK hF hst hpre HST hL
    by_cases hn : n = 0
    · subst hn
      gi_wp2
      try rw [Exit.noGoto_ret]
      refine ⟨by simp, .inl ⟨_, _, rfl, run_takeDeferred HK2.out, ?_⟩⟩
      refine ⟨_, results_tmp rfl _ _ _, ?_⟩
      exact HQ.out HFF.out.g HFF.out.row
    · have hn1 : ¬ ((n : Int) = 0) := by omega
      have HN := Lib.hid hn
      gi_wp2
      try rw [Exit.noGoto_ret]
      refine ⟨by simp, .inl ⟨_, _, rfl, run_takeDeferred HK2.out, ?_⟩⟩
      refine ⟨_, results_tmp rfl _ _ _, ?_⟩
      have h := HQ.out HFF.out.g HFF.out.row
      rw [if_neg HN.out] at h
      exact h
end
end Go.Proofs.YtjbepnkchoaipaaGreat
