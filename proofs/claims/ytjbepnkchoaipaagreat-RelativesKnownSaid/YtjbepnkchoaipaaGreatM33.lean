import Derived.Test.YtjbepnkchoaipaaGreatM28
import Derived.Test.YtjbepnkchoaipaaGreatM32
import Derived.Test.YtjbepnkchoaipaaGreatM27
set_option linter.unusedVariables false
set_option linter.unusedSimpArgs false
/- As Held4, for a region without an operation that waits for all others: the plan holds all of them. -/
namespace Go.Proofs.YtjbepnkchoaipaaGreat
open Go
section
variable {P : Program} {ops : Array Oper} {Q : Exit → Act → World → Prop} {md : Region.Mode} {S : World → Prop}
theorem wpAnyE_first {n i : Nat} {oi : Oper} {v : Value} (hi : ops[i]? = some oi) (hsel : ∀ (j : Nat) (o : Oper) cs b, ops[j]? = some o → o.op ≠ .select cs b)
    (hQ : ∀ c a w, Q (.panic c) (a.put oi.dst v) w → Q (.panic c) a w) (hn : n = ops.size) :
    ∀ (fuel : Nat) (listed : Array Bool) (a : Act) (w : World), HeadInv md ops n listed →
      (∀ j oj, ops[j]? = some oj → j ≠ i → listed.getD j true = false → (∀ e ∈ oj.after, Region.binds md e = true → e.on ≠ i) → oi.apart ops oj = true) →
      i ∈ Region.ready md ops listed → YieldsIf P ops S oi v a → S w →
      wpAnyT P md ops Q S n fuel (listed.setIfInBounds i true) (a.put oi.dst v) w → wpAnyT P md ops Q S n (fuel + 1) listed a w := by
  intro fuel
  induction fuel with
  | zero =>
    intro listed a w _ _ hr hy hS H
    refine ⟨fun h => (by rw [h] at hr; cases hr), fun j hj => ?_⟩
    by_cases hji : j = i
    · subst hji; exact hy.wpOp hi hS ⟨fun _ => hS, H⟩
    · have := ready_mono hj hji
      rw [H.1] at this
      cases this
  | succ fuel ih =>
    intro listed a w inv hfree hr hy hS H
    refine ⟨fun h => (by rw [h] at hr; cases hr), fun j hj => ?_⟩
    have hjn : j < n := by
      obtain ⟨_, oj, hoj, _⟩ := mem_ready.1 hj
      rw [hn]; exact (Array.getElem?_eq_some_iff.1 hoj).1
    by_cases hji : j = i
    · subst hji; exact hy.wpOp hi hS ⟨fun _ => hS, H⟩
    · have h1 := H.2 j (ready_mono hj hji)
      obtain ⟨hjun, oj, hoj, hall⟩ := mem_ready.1 hj
      have hnot : ∀ e ∈ oj.after, Region.binds md e = true → e.on ≠ i := fun e he hb heq => by
        have h1 := hall e he hb
        rw [heq, getD_both (mem_ready.1 hr).1] at h1
        cases h1
      have h2 := wpOp_putIf hoj (hfree j oj hoj hji hjun hnot) (fun cs b => hsel i oi cs b hi) (fun cs b => hsel j oj cs b hoj) hQ hy h1
      have hfree' : ∀ k ok, ops[k]? = some ok → k ≠ i → (listed.setIfInBounds j true).getD k true = false →
          (∀ e ∈ ok.after, Region.binds md e = true → e.on ≠ i) → oi.apart ops ok = true := fun k ok hk hki hun hno => by
        refine hfree k ok hk hki ?_ hno
        by_cases hjk : j = k
        · subst hjk; exact hjun
        · rw [getD_set_ne true hjk] at hun; exact hun
      refine wpOp_mono (fun a' w' h3 => ⟨fun _ => h3.2.1 hjn, ih (listed.setIfInBounds j true) a' w' (inv.set hj hjn) hfree' (ready_mono hr (Ne.symm hji)) h3.1 (h3.2.1 hjn) ?_⟩) h2
      rw [Array.setIfInBounds_comm _ _ hji]
      exact h3.2.2
theorem wpAnyE_pm {n : Nat} {tl : List Oper} (hsel : Region.noSelect ops = true) (hn : n = ops.size) (hQ : ∀ c a d v w, Q (.panic c) (Act.put a d v) w → Q (.panic c) a w) (htl : ∀ j, tl[j]? = ops[n + j]?) :
    ∀ (plan : Pl) (S : World → Prop) (listed : Array Bool) (a : Act) (w : World), HeadInv md ops n listed → plB md ops n tl.length plan listed = true → S w →
      wpPm P ops Q (fun a w => wpList P ops Q tl a w) plan S a w → wpAnyT P md ops Q S n (plan.len + tl.length) listed a w
  | .fin, S, listed, a, w, inv, hB, hS, h => by
    rw [Pl.len, Nat.zero_add]
    exact wpAnyT_of_seq tl n listed a w (Nat.le_refl _) htl hB h
  | .rd i t, S, listed, a, w, inv, hB, hS, h => by
    simp only [plB, Bool.and_eq_true, decide_eq_true_eq] at hB
    obtain ⟨⟨⟨hin, hr⟩, hf⟩, hB'⟩ := hB
    obtain ⟨o, v, ho, hy, hk⟩ := h
    have hr' : i ∈ Region.ready md ops listed := by simpa using hr
    rw [Pl.len, show t.len + 1 + tl.length = (t.len + tl.length) + 1 by omega]
    exact wpAnyE_first ho (Region.noSelect_spec hsel) (fun c a w h => hQ c a _ _ w h) hn _ listed a w inv (Region.free_spec ho hf) hr' hy hS
      (wpAnyE_pm hsel hn hQ htl t S _ _ w (inv.set hr' hin) hB' hS hk)
  | .wr i t, S, listed, a, w, inv, hB, hS, h => by
    simp only [plB, Bool.and_eq_true, decide_eq_true_eq] at hB
    obtain ⟨⟨hin, hone⟩, hB'⟩ := hB
    have hr' : i ∈ Region.ready md ops listed := by rw [hone]; simp
    rw [Pl.len, show t.len + 1 + tl.length = (t.len + tl.length) + 1 by omega]
    refine ⟨fun h1 => (by rw [h1] at hr'; cases hr'), fun j hj => ?_⟩
    rw [hone] at hj
    obtain rfl : j = i := by simpa using hj
    exact wpOp_mono (fun a' w' ⟨T, hTS, h1, h2⟩ => ⟨fun _ => hTS _ h1, wpAnyT_weak hTS _ _ _ _ (wpAnyE_pm hsel hn hQ htl t T _ a' w' (inv.set hr' hin) hB' h1 h2)⟩) h
  | .two i p j q, S, listed, a, w, inv, hB, hS, h => by
    simp only [plB, Bool.and_eq_true, decide_eq_true_eq] at hB
    obtain ⟨⟨⟨⟨⟨hin, hjn⟩, htwo⟩, hlen⟩, hB1⟩, hB2⟩ := hB
    have hri : i ∈ Region.ready md ops listed := by rw [htwo]; simp
    have hrj : j ∈ Region.ready md ops listed := by rw [htwo]; simp
    rw [Pl.len, show p.len + 1 + tl.length = (p.len + tl.length) + 1 by omega]
    refine ⟨fun h1 => (by rw [h1] at hri; cases hri), fun k hk => ?_⟩
    rw [htwo] at hk
    rcases List.mem_cons.1 hk with rfl | hk
    · exact wpOp_mono (fun a' w' ⟨T, hTS, h1, h2⟩ => ⟨fun _ => hTS _ h1, wpAnyT_weak hTS _ _ _ _ (wpAnyE_pm hsel hn hQ htl p T _ a' w' (inv.set hri hin) hB1 h1 h2)⟩) h.1
    · obtain rfl : k = j := by simpa using hk
      rw [hlen]
      exact wpOp_mono (fun a' w' ⟨T, hTS, h1, h2⟩ => ⟨fun _ => hTS _ h1, wpAnyT_weak hTS _ _ _ _ (wpAnyE_pm hsel hn hQ htl q T _ a' w' (inv.set hrj hjn) hB2 h1 h2)⟩) h.2
/-- A region without a tail: all its operations are in the plan. -/
def plAllB (md : Region.Mode) (ops : Array Oper) (plan : Pl) : Bool :=
  Region.noSelect ops && decide (plan.len = ops.size) && plB md ops ops.size 0 plan (Array.replicate ops.size false)
theorem wp_region_pe {id : Nat} {a : Act} {w : World} {l : List Oper} (plan : Pl) (S : World → Prop) (hm : P.follows .mixedOrders = true) (hB : plAllB .any l.toArray plan = true) (hQ : ∀ c a d v w, Q (.panic c) (Act.put a d v) w → Q (.panic c) a w) (hS : S w.drew)
    (h : wpPm P l.toArray Q (fun a' w' => wpList P l.toArray Q [] a' w') plan S a w.drew) : (Code.region id l.toArray true).wp P Q a w := by
  simp only [plAllB, Bool.and_eq_true, decide_eq_true_eq] at hB
  obtain ⟨⟨hsel, hpl⟩, hp⟩ := hB
  have inv0 : HeadInv .any l.toArray l.toArray.size (Array.replicate l.toArray.size false) :=
    ⟨by simp, fun j oj _ hl => (by rw [getD_replicate_false] at hl; cases hl), fun t _ ht => getD_in (by simpa using ht) (getD_replicate_false _ _)⟩
  have H := wpAnyE_pm (md := .any) (tl := []) hsel rfl hQ (fun j => by simp) plan S _ a w.drew inv0 hp hS h
  refine wp_region_any hm ?_
  have H2 := wpAny_of_T _ _ _ _ H
  rw [List.length_nil, Nat.add_zero, hpl] at H2
  exact H2
end
end Go.Proofs.YtjbepnkchoaipaaGreat
/- Law 31: take, all. -/
namespace Go.Proofs.YtjbepnkchoaipaaGreat
open Go.RowKit Go.Lib Go.Maps Go.WideMaps Go.Sort Go.Shelf
set_option maxRecDepth 100000
attribute [local go_sem] Oper.semAt_some
section
variable {w0 : World} {p pf : Nat} {nm : J.B} {rel : Bool} {size mode next last : Nat} {w : World} {s : J.St} {fs : List (Nat × Obj)}
theorem file_two_row (h0 : w.heap[pf]? = some (fileO p nm rel size mode next last)) (a b : Nat) :
    w.grownBy ((w.setCell ⟨pf, 5, none⟩ (.int .i64 a)).setCell ⟨pf, 6, none⟩ (.int .i64 b)) (some pf) ∧ ((w.setCell ⟨pf, 5, none⟩ (.int .i64 a)).setCell ⟨pf, 6, none⟩ (.int .i64 b)).heap[pf]? = some (fileO p nm rel size mode a b) :=
  ⟨grown_set (grown_set (World.grownBy.refl w _) 5 _) 6 _, blk_set (blk_set h0 5 _) 6 _⟩
theorem file_at {w' : World} {mode' next' last' : Nat} (h : At w0 p ((pf, fileO p nm rel size mode next last) :: fs) s w) (hf : ∀ x ∈ fs, x.1 ≠ pf) (ht : J.Two s) (hg : w.grownBy w' (some pf)) (hr : w'.heap[pf]? = some (fileO p nm rel size mode' next' last')) :
    At w0 p ((pf, fileO p nm rel size mode' next' last') :: fs) s w' := h.turn hf ht (file_noBy (h.get List.mem_cons_self)) hg hr
theorem grown_below {w1 w2 : World} {k : Nat} (hb : Below w.heap.size w w1) (hg : w1.grownBy w2 (some k)) : w.grownBy w2 (some k) :=
  ⟨hg.os.trans hb.os, hg.tape.trans hb.tape, hg.output.trans hb.output, Nat.le_trans hb.size hg.size, fun j hj hn => (hg.block j (Nat.lt_of_lt_of_le hj hb.size) hn).trans (hb.block j hj)⟩
theorem ftake_any (h : At w0 p fs s w) (h0 : (pf, fileO p nm rel size mode next last) ∈ fs) (n : Nat) (hn : n ≤ 65536) (hnm : nm.length ≤ 100) (hl : ∀ l, J.look s.now (R.key nm n) = some l → l.length ≤ 90000000) :
    Calls Tryz.prog 45 #[.pointer (some ⟨pf, 0, none⟩), .int .i64 n] w fun e w' => ∃ v, e = .returned v ∧ Slc w' (· < w.heap.size) v ((J.look s.now (R.key nm n)).getD []) ∧ w.grownBy w' (some pf) ∧ w'.heap[pf]? = some (fileO p nm rel size mode (n + 1) n) := by
  have hlt := (Array.getElem?_eq_some_iff.1 (h.get h0)).1
  have HR := Lib.hid (frecord_any h h0 n hnm (by rw [num32_nat (by omega)]; exact hl))
  rw [num32_nat (by omega)] at HR
  have HG := Lib.hid h0
  have hn1 : wrap64 ((n : Int) + 1) = (n : Int) + 1 := IntWalk.wrap64_in _ (by omega)
  clear h hl h0
  generalize hgl : (J.look s.now (R.key nm n)).getD [] = l at HR ⊢
  generalize hgb : (J.look s.now (R.key nm n)).isSome = bl at HR
  clear hgl hgb
  go_enter Tryz.func45, Tryz.ntmps45
  go_wp2_with fail
  refine HR.out.mono ?_
  rintro e w1 ⟨v, rfl, hs, ha, hb⟩
  have h0 := ha.get HG.out
  have hc := fun j => cell_of_row w1 pf j _ _ _ h0
  have hfz := frozen_row h0
  have HS := Lib.hid (((hs.step (Step.setCell (p := ⟨pf, 5, none⟩) hlt (.int .i64 ((n + 1 : Nat) : Int)))).step (Step.setCell (p := ⟨pf, 6, none⟩) hlt (.int .i64 (n : Nat)))))
  have HA := Lib.hid (file_two_row h0 (n + 1) n)
  have HB := Lib.hid hb
  obtain ⟨A, c, rfl, _, _⟩ := hs.sl.by
  rw [Int.natCast_add] at HS HA
  have hz : ((1 : Nat) : Int) = 1 := rfl
  rw [hz] at HS HA
  clear hs ha hb h0 HR HG hz
  go_wp2
  go_ret
  exact ⟨_, rfl, HS.out, grown_below HB.out HA.out.1, HA.out.2⟩
/-- The cells of a file that nothing sets. -/
def KpG (C : World → Nat → Prop) (pf p : Nat) (nm : J.B) (rel : Bool) (size : Nat) (W W' : World) : Prop :=
  KpC C W W' ∧ ∀ a b c, W.heap[pf]? = some (fileO p nm rel size a b c) → ∃ a' b' c', W'.heap[pf]? = some (fileO p nm rel size a' b' c')
theorem KpG.t {C : World → Nat → Prop} {A B D : World} (h : KpG C pf p nm rel size A B) (k : KpG C pf p nm rel size B D) : KpG C pf p nm rel size A D :=
  ⟨h.1.t k.1, fun a b c e => by obtain ⟨a', b', c', e'⟩ := h.2 a b c e; exact k.2 a' b' c' e'⟩
theorem KpG.put {C : World → Nat → Prop} {w : World} (hC : ∀ W k, C W k → k < w.heap.size) (hD : ∀ W W' l k, w.heap.size ≤ l → (∀ j, j ≠ l → W'.heap[j]? = W.heap[j]?) → C W' k → C W k) (W : World) (l : Nat) (o o' : Obj) (hl : w.heap.size ≤ l) (h : W.heap[l]? = some o) (hc : o.isCells = false) : KpG C pf p nm rel size W (W.putObj l o') := by
  have _ := hC
  refine ⟨⟨fun k q hq hqc _ => ?_, by simp, fun k _ hk => ?_⟩, fun a b c e => ⟨a, b, c, ?_⟩⟩
  · have : k ≠ l := fun e => by subst e; rw [h] at hq; injection hq with hq; subst hq; rw [hc] at hqc; cases hqc
    exact (World.putObj_heap_other this).trans hq
  · exact hD W _ l k hl (fun j hj => World.putObj_heap_other hj) hk
  · have : pf ≠ l := fun e' => by subst e'; rw [h] at e; injection e with e; subst e; cases hc
    exact (World.putObj_heap_other this).trans e
/-- A number that may be one of a record. -/
abbrev Nm := Fin 65537
abbrev encN (x : Nm) : Value := .int .i64 (x.val : Nat)
theorem cell_isCells {W : World} {a : Addr} {v : Value} (h : W.cell? a = some v) : ∃ o, W.heap[a.block]? = some o ∧ o.isCells = true := by
  unfold World.cell? at h
  cases hb : W.heap[a.block]? with
  | none => rw [hb] at h; cases h
  | some o =>
    rw [hb] at h
    cases o <;> first | exact ⟨_, rfl, rfl⟩ | (cases h)
theorem KpC.cell {C : World → Nat → Prop} {W W' : World} (h : KpC C W W') {a : Addr} {v : Value} (hc : W.cell? a = some v) (hn : ¬ C W a.block) : W'.cell? a = some v := by
  obtain ⟨o, ho, hi⟩ := cell_isCells hc
  exact (World.cell?_of_block ((h.1 _ _ ho hi hn).trans ho.symm)).trans hc
/-- What holds at the beginning of a round of all. -/
structure AllI (C : World → Nat → Prop) (Jv : List Nm → World → Prop) (ns : List Nm) (A : Option Addr) (Bf pf p : Nat) (nm : J.B) (rel : Bool) (size : Nat) (k : Nat) (W : World) : Prop where
  j : Jv (ns.take k) W
  st : StrsAt W A (ns.map fun x => R.key nm x.val)
  row : ∃ a b c, W.heap[pf]? = some (fileO p nm rel size a b c)
  box : W.cell? ⟨Bf, 0, none⟩ = some (.pointer (some ⟨pf, 0, none⟩))
  nb : ¬ C W Bf
  ng : 0 < ns.length → ∀ g, A = some ⟨g, 0, none⟩ → ¬ C W g
theorem AllI.go {C : World → Nat → Prop} {Jv : List Nm → World → Prop} {ns : List Nm} {A : Option Addr} {Bf k j : Nat} {W W' : World} (h : AllI C Jv ns A Bf pf p nm rel size k W) (hg : KpG C pf p nm rel size W W') (hj : Jv (ns.take j) W') : AllI C Jv ns A Bf pf p nm rel size j W' := by
  refine ⟨hj, fun hn => ?_, ?_, hg.1.cell h.box h.nb, fun hc => h.nb (hg.1.2.2 _ (World.block_lt_of_cell? W ⟨Bf, 0, none⟩ h.box) hc), fun hn g e hc => ?_⟩
  · obtain ⟨g, e, hl, hs⟩ := h.st hn
    exact ⟨g, e, Nat.lt_of_lt_of_le hl hg.1.2.1, fun i hi => hg.1.cell (hs i hi) (h.ng (by simpa using hn) g e)⟩
  · obtain ⟨a, b, c, e⟩ := h.row
    exact hg.2 a b c e
  · obtain ⟨g', e', hl, hs⟩ := h.st (by simpa using hn)
    rw [e] at e'; injection e' with e'; injection e' with e'; subst e'
    exact h.ng hn g e (hg.1.2.2 g hl hc)
theorem AllI.below {C : World → Nat → Prop} {Jv : List Nm → World → Prop} {ns : List Nm} {A : Option Addr} {Bf k : Nat} {W0 W W' : World} (h : AllI C Jv ns A Bf pf p nm rel size k W) (hb : Below W.heap.size W W') (hJ : AbidesFrom W0.heap.size Jv) (hC : ∀ k, k < W.heap.size → C W' k → C W k) : AllI C Jv ns A Bf pf p nm rel size k W' :=
  h.go ⟨⟨fun j o ho _ _ => (hb.block j (Array.getElem?_eq_some_iff.1 ho).1).trans ho, hb.size, hC⟩, fun a b c e => ⟨a, b, c, (hb.block pf (Array.getElem?_eq_some_iff.1 e).1).trans e⟩⟩ (hJ _ W W' none h.j (below_grown hb) (fun r e => by cases e))
set_option maxHeartbeats 1000000 in
theorem all1_in (n : Nat) (hn : 1 ≤ n) (l Bf : Nat) (ns : List Nm) (D : Nat → Prop) (Jv Jx : List Nm → World → Prop) (hnm : nm.length ≤ 100)
    (hY : ∀ xs x W, Jv xs W → xs.length < ns.length → YieldAt Fence.wide (n - 1) Tryz.prog l #[encN x] W fun e W' => (e = .returned (.bool true) ∧ Jv (xs ++ [x]) W' ∧ KpG (fun _ => D) pf p nm rel size W W') ∨ (e = .returned (.bool false) ∧ Jx (xs ++ [x]) W'))
    (W : World) (hJ : AbidesFrom W.heap.size Jv) (h : At w0 p fs s W) (hf : (pf, fileO p nm rel size mode next last) ∈ fs) (hml : s.now.length ≤ 1000000)
    (hk : keysOf s.now ⟨(R.recs nm).toArray⟩ = ns.map fun x => R.key nm x.val) (hpos : ∀ x ∈ ns, 1 ≤ x.val) (hb : W.cell? ⟨Bf, 0, none⟩ = some (.pointer (some ⟨pf, 0, none⟩)))
    (hC : ∀ k, D k → k < W.heap.size ∧ k ≠ Bf) (h0 : Jv [] W) :
    CallsIn Fence.wide n Tryz.prog 75 #[.func (.yield l) #[] #[], .pointer (some ⟨Bf, 0, none⟩)] W fun e W' => (∃ v, e = .returned v) ∧
      ((∃ ys, ys = ns ∧ Jv ys W') ∨ (∃ q, q <+: ns ∧ Jx q W')) := by
  have hr := h.get hf
  have hnl : ns.length ≤ 1000000 := by have h1 := congrArg List.length hk; rw [List.length_map] at h1; rw [← h1]; exact Nat.le_trans (keysOf_len _ _) hml
  have hKS : ∀ W1, Below W.heap.size W W1 → Calls Tryz.prog 38 #[.pointer (some ⟨p, 0, none⟩), .string ⟨(R.recs nm).toArray⟩] W1 fun e w' => ∃ A, e = .returned (.slice A (keysOf s.now ⟨(R.recs nm).toArray⟩).length (keysOf s.now ⟨(R.recs nm).toArray⟩).length) ∧ StrsAt w' A (keysOf s.now ⟨(R.recs nm).toArray⟩) ∧ Below W.heap.size W w' ∧ (∀ g, A = some ⟨g, 0, none⟩ → W.heap.size ≤ g) := fun W1 hb1 => by
    refine (at_keys (h.below hb1) ⟨(R.recs nm).toArray⟩ hml).mono ?_
    rintro e w' ⟨A, rfl, h1, _, h3, h4⟩
    exact ⟨A, rfl, h1, hb1.trans (h3.mono hb1.size), fun g e => Nat.le_trans hb1.size (h4 g e)⟩
  have HKS := Lib.hid hKS
  have HY := Lib.hid hY
  have HC := Lib.hid hC
  have HJ := Lib.hid hJ
  have H0 := Lib.hid h0
  have HK := Lib.hid hk
  have HP := Lib.hid hpos
  have HR := Lib.hid hr
  have hBl : Bf < W.heap.size := World.block_lt_of_cell? W ⟨Bf, 0, none⟩ hb
  clear hKS hY hC hJ h0 hk hpos h hf hml
  refine callsIn_of_wp Tryz.func75 rfl trivial ?_ rfl
  simp only [Tryz.ntmps75, List.size_toArray, List.length_cons, List.length_nil, Nat.reduceAdd, Nat.reduceSub, Array.replicate_succ, Array.replicate_zero, List.push_toArray, List.append_toArray, List.nil_append, List.cons_append]
  gi_wp2_with fail
  refine wpIn_wide.2 ?_
  refine wp_region_pe (.rd 0 (.rd 1 (.rd 2 (.rd 3 (.rd 4 (.rd 5 (.rd 6 (.rd 7 (.rd 8 (.rd 12 (.wr 9 (.wr 10 (.rd 11 .fin))))))))))))) (fun w' => w'.heap[pf]? = some (fileO p nm rel size mode next last) ∧ w'.cell? ⟨Bf, 0, none⟩ = some (.pointer (some ⟨pf, 0, none⟩))) (by kernel_rfl) (by kernel_rfl) (fun c a d v w h => by cases d <;> exact h) ⟨HR.out, hb⟩ ?_
  repeat
    refine wpPm_read (v := ?_) (by rfl) (by rfl) (fun w' hS => ?_) (fun K hK => ?_)
    rotate_left
    · have hc := fun j => cell_of_row w' pf j _ _ _ hS.1
      have hcb := hS.2
      clear hS
      go_simp
      try with_reducible rfl
    go_simp
    refine hK _ ?_
    clear hK K
  refine wpPm_write (by rfl) (fun K hK => ?_)
  go_simp
  refine (records_any nm _ (by omega)).mono ?_
  rintro e w1 ⟨rfl, hw1⟩
  subst hw1
  refine hK.out _ _ (fun w' => w'.heap[pf]? = some (fileO p nm rel size mode next last) ∧ w'.cell? ⟨Bf, 0, none⟩ = some (.pointer (some ⟨pf, 0, none⟩))) (fun _ h => h) ⟨HR.out, hb⟩ ?_
  clear hK K
  refine wpPm_write (by rfl) (fun K hK => ?_)
  go_simp
  refine (HKS.out _ ((Below.refl _ W).drew)).mono ?_
  rintro e w1 ⟨A, rfl, hst, hb1, hge⟩
  rw [HK.out] at hst
  rw [HK.out, List.length_map]
  have hrw := (hb1.block pf (Array.getElem?_eq_some_iff.1 HR.out).1).trans HR.out
  have hbw := (hb1.cell (p := ⟨Bf, 0, none⟩) hBl).trans hb
  refine hK.out _ _ (fun w' => w'.heap[pf]? = some (fileO p nm rel size mode next last) ∧ w'.cell? ⟨Bf, 0, none⟩ = some (.pointer (some ⟨pf, 0, none⟩))) (fun _ h => h) ⟨hrw, hbw⟩ ?_
  clear hK K
  repeat
    refine wpPm_read (v := ?_) (by rfl) (by rfl) (fun w' hS => ?_) (fun K hK => ?_)
    rotate_left
    · have hc := fun j => cell_of_row w' pf j _ _ _ hS.1
      have hcb := hS.2
      clear hS
      go_simp
      try with_reducible rfl
    go_simp
    refine hK _ ?_
    clear hK K
  have HST := Lib.hid hst
  have HB1 := Lib.hid hb1
  have HGE := Lib.hid hge
  have J1 := Lib.hid (HJ.out [] W w1 none H0.out (below_grown hb1) (fun r e => by cases e))
  have HRW := Lib.hid hrw
  have HBW := Lib.hid hbw
  clear hst hb1 hge hrw hbw HKS HR hb
  have HA0 := Lib.hid (show AllI (fun _ => D) Jv ns A Bf pf p nm rel size 0 w1 from ⟨J1.out, HST.out, ⟨_, _, _, HRW.out⟩, HBW.out, fun hc => (HC.out Bf hc).2 rfl, fun _ g e hc => by have := (HC.out g hc).1; have := HGE.out g e; omega⟩)
  have HB2 := Lib.hid HB1.out.size
  clear HST HB1 HGE J1 HRW HBW HC H0
  show wpList _ _ _ _ _ _
  simp only [wpList, Exit.then]
  gi_wp2
  gi_loopw [18] (fun i W2 => ∃ k : Nat, k ≤ ns.length ∧ i = .int .i64 k ∧ Hid (AllI (fun _ => D) Jv ns A Bf pf p nm rel size k W2)) (fun i _ => ns.length - (intOf i).toNat)
  case atStart => exact ⟨0, Nat.zero_le _, rfl, HA0⟩
  case round =>
    clear HA0
    obtain ⟨k, hk, rfl, HA⟩ := hrel
    by_cases hlt : k < ns.length
    · obtain ⟨g, rfl, hgl, hst⟩ := HA.out.st (by simpa using (show 0 < ns.length by omega))
      have hck := hst k (by simpa using hlt)
      rw [List.getElem_map] at hck
      obtain ⟨a, b, c, hrow⟩ := HA.out.row
      have hbox := HA.out.box
      have hc := fun j => cell_of_row wr pf j _ _ _ hrow
      have HN := Lib.hid (number_any nm ns[k].val wr (by have := ns[k].isLt; omega) (by omega))
      clear hst hgl
      gi_wp2_with fail
      refine ⟨trivial, (callsIn_wide.2 HN.out).mono ?_⟩
      rintro e w3 ⟨rfl, hb3⟩
      have HA3 := Lib.hid (HA.out.below hb3 HJ.out (fun _ _ h => h))
      obtain ⟨fn, tmps, assign, body, hy, hR⟩ := HY.out _ ns[k] w3 HA3.out.j (by rw [List.length_take]; omega)
      have hp1 : (0 : Int) < (ns[k].val : Nat) := by have := HP.out ns[k] (List.getElem_mem hlt); omega
      have HTK := Lib.hid (List.take_succ_eq_append_getElem hlt)
      have HLT := Lib.hid hlt
      generalize hx : ns[k] = x at hy hR hp1 HTK
      clear hck hrow hbox hc HN hb3 HA
      gi_wp2_with fail
      refine hR.mono ?_
      rintro e W4 (⟨rfl, hj4, hk4⟩ | ⟨rfl, hjx⟩)
      · have HA4 := Lib.hid (HA3.out.go (j := k + 1) hk4 (by rw [HTK.out]; exact hj4))
        clear hj4 hk4 hR hy HA3
        gi_wp2
        go_roundw
        case rel => exact ⟨k + 1, HLT.out, by go_num, HA4⟩
        case measure => have h1 := HLT.out; simp [intOf]; omega
      · have HJX := Lib.hid hjx
        clear hjx hR hy HA3
        gi_wp2
        refine bodyPost_ret (results_none rfl _ _ _) rfl ?_
        exact ⟨⟨_, rfl⟩, .inr ⟨_, List.take_prefix (k + 1) _, by rw [HTK.out]; exact HJX.out⟩⟩
    · obtain rfl : k = ns.length := by omega
      have hj' := HA.out.j
      rw [List.take_length] at hj'
      have HJE := Lib.hid hj'
      clear hj'
      gi_wp2
      go_end0
      exact ⟨⟨_, rfl⟩, .inl ⟨_, rfl, HJE.out⟩⟩
/-- What all hands back: a value that visits the numbers, over a loop whose rounds keep all cells but those that D names, and the file's row. -/
theorem all_stops (n : Nat) (hn : 1 ≤ n) (Bf : Nat) (ns : List Nm) (D : Nat → Prop) (hnm : nm.length ≤ 100) (h : At w0 p fs s w) (hf : (pf, fileO p nm rel size mode next last) ∈ fs) (hml : s.now.length ≤ 1000000)
    (hk : keysOf s.now ⟨(R.recs nm).toArray⟩ = ns.map fun x => R.key nm x.val) (hpos : ∀ x ∈ ns, 1 ≤ x.val) (hb : w.cell? ⟨Bf, 0, none⟩ = some (.pointer (some ⟨pf, 0, none⟩))) (hC : ∀ k, D k → k < w.heap.size ∧ k ≠ Bf) :
    SeqStopsK Fence.wide n Tryz.prog 75 #[.pointer (some ⟨Bf, 0, none⟩)] (fun x : Nm => #[encN x]) (KpG (fun _ => D) pf p nm rel size) (fun ys => ys = ns) (fun q => q <+: ns) ns.length w := fun l Jv Jx W hW hJ _ hY h0 =>
  all1_in n hn l Bf ns D Jv Jx hnm hY W hJ (h.below hW) hf hml hk hpos ((hW.cell (p := ⟨Bf, 0, none⟩) (World.block_lt_of_cell? w ⟨Bf, 0, none⟩ hb)).trans hb) (fun k hd => ⟨Nat.lt_of_lt_of_le (hC k hd).1 hW.size, (hC k hd).2⟩) h0
theorem all_any (pf : Nat) (w : World) :
    CallsIn Fence.wide 5 Tryz.prog 43 #[.pointer (some ⟨pf, 0, none⟩)] w fun e w' => e = .returned (.func (.func 75) #[] #[.pointer (some ⟨w.heap.size, 0, none⟩)]) ∧ w' = w.alloc (.cells #[.pointer (some ⟨pf, 0, none⟩)] 27) := by
  refine callsIn_of_wp Tryz.func43 rfl trivial ?_ rfl
  simp only [Tryz.ntmps43, List.size_toArray, List.length_cons, List.length_nil, Nat.reduceAdd, Nat.reduceSub, Array.replicate_succ, Array.replicate_zero, List.push_toArray, List.append_toArray, List.nil_append, List.cons_append]
  gi_wp2
  go_ret
  exact ⟨rfl, rfl⟩
end
end Go.Proofs.YtjbepnkchoaipaaGreat
/- Law 31: Close, Mode, holds. -/
namespace Go.Proofs.YtjbepnkchoaipaaGreat
open Go.RowKit Go.Lib Go.Maps Go.WideMaps Go.Sort
set_option maxRecDepth 100000
section
variable {w0 : World} {p pf : Nat} {nm : J.B} {rel : Bool} {size mode nxt last : Nat} {w : World} {s : J.St} {fs : List (Nat × Obj)}
theorem mode_any (h : w.heap[pf]? = some (fileO p nm rel size mode nxt last)) :
    Calls Tryz.prog 18 #[.pointer (some ⟨pf, 0, none⟩)] w fun e w' => e = .returned (.int .u8 (mode : Nat)) ∧ w = w' := by
  have hc := fun j => cell_of_row w pf j _ _ _ h
  clear h
  go_enter Tryz.func18, Tryz.ntmps18
  go_wp2
  go_ret
  exact ⟨rfl, rfl⟩
theorem close_shut (h : w.heap[pf]? = some (fileO p nm rel size 0 nxt last)) :
    Calls Tryz.prog 11 #[.pointer (some ⟨pf, 0, none⟩)] w fun e w' => e = .returned (.string ⟨#[52, 50]⟩) ∧ w = w' := by
  have hr := fready_any h
  have hc := fun j => cell_of_row w pf j _ _ _ h
  clear h
  go_enter Tryz.func11, Tryz.ntmps11
  go_wp2_with fail
  refine hr.mono ?_
  rintro e w1 ⟨rfl, rfl⟩
  go_wp2
  go_ret
  exact ⟨rfl, rfl⟩
theorem close_open (h : w.heap[pf]? = some (fileO p nm rel size mode nxt last)) (hm : 0 < mode) :
    Calls Tryz.prog 11 #[.pointer (some ⟨pf, 0, none⟩)] w fun e w' => e = .returned (.string ⟨#[48, 48]⟩) ∧ w.grownBy w' (some pf) ∧ w'.heap[pf]? = some (fileO p nm rel size 0 nxt last) := by
  have hr := fready_any h
  have hc := fun j => cell_of_row w pf j _ _ _ h
  have hz := frozen_row h
  have HG := Lib.hid (grown_set (World.grownBy.refl w (some pf)) 4 (.int .u8 0))
  have HR := Lib.hid (blk_set h 4 (.int .u8 0))
  have h0 : ¬ (mode : Int) = 0 := by omega
  clear h
  go_enter Tryz.func11, Tryz.ntmps11
  go_wp2_with fail
  refine hr.mono ?_
  rintro e w1 ⟨rfl, rfl⟩
  go_wp2
  go_ret
  exact ⟨rfl, HG.out, HR.out⟩
end
/-- Whether a number fulfills a relation to another one. -/
def holds (r n : Nat) (m : Int) : Bool := if r = 0 then decide ((n : Int) = m) else if r = 1 then decide (m < n) else if r = 2 then decide (m ≤ n) else if r = 3 then decide ((n : Int) < m) else if r = 4 then decide ((n : Int) ≤ m) else false
theorem holds_any (r n : Nat) (m : Int) (w : World) (hr : r ≤ 5) :
    Calls Tryz.prog 63 #[.int .u8 (r : Nat), .int .i64 (n : Nat), .int .i64 m] w fun e w' => e = .returned (.bool (holds r n m)) ∧ w = w' := by
  rcases (show r = 0 ∨ r = 1 ∨ r = 2 ∨ r = 3 ∨ r = 4 ∨ r = 5 by omega) with rfl | rfl | rfl | rfl | rfl | rfl
  all_goals
    go_enter Tryz.func63, Tryz.ntmps63
    go_wp2
    go_ret
    refine ⟨?_, rfl⟩
    first
      | rfl
      | (show Ending.returned (.bool _) = Ending.returned (.bool _); congr 2; try simp [holds]; try rfl)
end Go.Proofs.YtjbepnkchoaipaaGreat
