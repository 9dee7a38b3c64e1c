import Derived.Test.YtjbepnkchoaipaaGreatM35
set_option linter.unusedVariables false
set_option linter.unusedSimpArgs false
/- Law 31: Append. -/
namespace Go.Proofs.YtjbepnkchoaipaaGreat
open Go.RowKit Go.Lib Go.Maps Go.WideMaps Go.Sort Go.Shelf
set_option maxRecDepth 100000
attribute [local go_sem] Oper.semAt_some
/-- The number behind the last one. -/
def nOf (ns : List Nm) : Nat := match ns.getLast? with
  | some x => x.val + 1
  | none => 1
theorem nOf_snoc (q : List Nm) (x : Nm) : nOf (q ++ [x]) = x.val + 1 := by simp [nOf]
section
variable {w0 : World} {p pf : Nat} {nm : J.B} {rel : Bool} {size mode nxt last : Nat} {w : World} {s s2 : J.St} {fs : List (Nat × Obj)}
theorem append_shut (h : w.heap[pf]? = some (fileO p nm rel size mode nxt last)) (A : Option Addr) (l c : Nat) (hs : chk [52, 56] false 2 4 rel mode ≠ [48, 48]) :
    Calls Tryz.prog 12 #[.pointer (some ⟨pf, 0, none⟩), .slice A l c] w fun e w' => e = .returned (.tuple #[.int .i64 0, .string ⟨(chk [52, 56] false 2 4 rel mode).toArray⟩]) ∧ w = w' := by
  have HCK := Lib.hid (fcheck_any (wrong := [52, 56]) (need := false) (a := 2) (b := 4) h)
  have hne := chk_ne hs
  generalize (⟨(chk [52, 56] false 2 4 rel mode).toArray⟩ : ByteArray) = st at HCK hne ⊢
  clear hs h
  go_enter Tryz.func12, Tryz.ntmps12
  go_wp2_with fail
  refine HCK.out.mono ?_
  rintro e w1 ⟨rfl, rfl⟩
  clear HCK
  go_wp2
  go_ret2
  exact ⟨rfl, rfl⟩
theorem append_long (h : At w0 p ((pf, fileO p nm rel size mode nxt last) :: fs) s w) (hf : ∀ x ∈ fs, x.1 ≠ pf) (ht : J.Two s) (A : Option Addr) (l c : Nat) (hl : ¬ (0 < l ∧ l ≤ size)) (hs : chk [52, 56] false 2 4 rel mode = [48, 48]) :
    Calls Tryz.prog 12 #[.pointer (some ⟨pf, 0, none⟩), .slice A l c] w fun e w' => e = .returned (.tuple #[.int .i64 0, .string ⟨#[52, 52]⟩]) ∧ At w0 p ((pf, fileO p nm rel size mode nxt 0) :: fs) s w' := by
  have hrow := h.get List.mem_cons_self
  have hck := fcheck_any (wrong := [52, 56]) (need := false) (a := 2) (b := 4) hrow
  rw [hs] at hck
  have HCK := Lib.hid hck
  have hA := file_one h hf ht 0
  have HFI := Lib.hid (fits_any (hA.get List.mem_cons_self) A l c)
  rw [decide_eq_false hl] at HFI
  have HA := Lib.hid hA
  have hc := fun j => cell_of_row w pf j _ _ _ hrow
  have hz := frozen_row hrow
  clear h hf ht hs hck hA hl
  go_enter Tryz.func12, Tryz.ntmps12
  go_wp2_with fail
  refine HCK.out.mono ?_
  rintro e w1 ⟨rfl, rfl⟩
  clear HCK
  go_wp2_with fail
  refine HFI.out.mono ?_
  rintro e w2 ⟨rfl, hw⟩
  clear HFI
  subst hw
  go_wp2
  go_ret2
  exact ⟨rfl, HA.out⟩
/-- What holds in Append's loop. -/
structure ApI (w5 : World) (n : Int) (W : World) : Prop where
  b : Below w5.heap.size w5 W
  box : W.heap[w5.heap.size]? = some (boxN (.int .i64 n))
theorem ap_own {β : Type} (B : Nat) (w5 : World) (f : β → Int) (hB : w5.heap.size ≤ B) : OwnFrom (β := β) B (fun x W => ApI w5 (f x) W) := fun x W W' row h hg hr =>
  ⟨ownFrom_below (Nat.le_refl _) hB x W W' row h.b hg hr, row_own (β := β) B _ _ _ _ x W W' row h.box hg hr⟩
theorem kpg_set {W : World} {b : Nat} (hb : pf ≠ b) (i : Nat) (v : Value) : KpG (fun _ => (· = b)) pf p nm rel size W (W.setCell ⟨b, i, none⟩ v) :=
  ⟨⟨fun k q hq _ hn => (Below.heap_setCell W ⟨b, i, none⟩ v k hn).trans hq, by simp [World.setCell], fun _ _ h => h⟩, fun a1 b1 c1 e => ⟨a1, b1, c1, (Below.heap_setCell W ⟨b, i, none⟩ v pf hb).trans e⟩⟩
theorem defer_noBy {W : World} {D : Nat} {l} (h : W.heap[D]? = some (.deferred l)) : NoBy W D := by
  refine ⟨fun o u v hh => ?_, fun ⟨_, cur, fr, e⟩ => ?_⟩
  · have : W.cell? ⟨D, o, none⟩ = none := by unfold World.cell?; rw [h]
    rw [this] at hh
    exact absurd hh.1 (by simp)
  · rw [h] at e
    injection e with e
    cases e
theorem at_defer {W : World} {D : Nat} (h : At w0 p ((D, .deferred (some [])) :: fs) s W) (hg : ∀ x ∈ fs, x.1 ≠ D) (ht : J.Two s) : At w0 p fs s (W.putObj D (.deferred none)) := by
  have h0 := h.get List.mem_cons_self
  exact (h.turn (o' := .deferred none) hg ht (defer_noBy h0) (grownBy_putObj' _ D (.deferred none)) (World.putObj_heap_same (Array.getElem?_eq_some_iff.1 h0).1)).less (fun x hx => List.mem_cons_of_mem _ hx)
theorem append_go (ns : List Nm) (h : At w0 p ((pf, fileO p nm rel size mode nxt last) :: fs) s w) (hf : ∀ x ∈ fs, x.1 ≠ pf) (ht : J.Two s) (A : Option Addr) (l c : Nat) (hl : 0 < l ∧ l ≤ size) (hnm : nm.length ≤ 100) (hml : s.now.length ≤ 1000000)
    (hk : keysOf s.now ⟨(R.recs nm).toArray⟩ = ns.map fun x => R.key nm x.val) (hpos : ∀ x ∈ ns, 1 ≤ x.val) (hs : chk [52, 56] false 2 4 rel mode = [48, 48])
    (Q : Ending → World → Prop) (ht2 : J.Two s2)
    (hfull : 65536 < nOf ns → ∀ w', At w0 p ((pf, fileO p nm rel size mode nxt 0) :: fs) s w' → Q (.returned (.tuple #[.int .i64 0, .string ⟨#[50, 52]⟩])) w')
    (hput : nOf ns ≤ 65536 → ∀ gs w1, (∀ x ∈ fs, x ∈ gs) → At w0 p ((pf, fileO p nm rel size mode nxt 0) :: gs) s w1 → Calls Tryz.prog 44 #[.pointer (some ⟨pf, 0, none⟩), .int .i64 (nOf ns : Nat), .slice A l c] w1 fun e w' => e = .returned (.string ⟨#[48, 48]⟩) ∧ At w0 p ((pf, fileO p nm rel size mode nxt 0) :: gs) s2 w')
    (hok : nOf ns ≤ 65536 → ∀ w', At w0 p ((pf, fileO p nm rel size mode nxt 0) :: fs) s2 w' → Q (.returned (.tuple #[.int .i64 (nOf ns : Nat), .string ⟨#[48, 48]⟩])) w') :
    CallsIn Fence.wide 6 Tryz.prog 12 #[.pointer (some ⟨pf, 0, none⟩), .slice A l c] w Q := by
  have hrow := h.get List.mem_cons_self
  have hck := fcheck_any (wrong := [52, 56]) (need := false) (a := 2) (b := 4) hrow
  rw [hs] at hck
  have HCK := Lib.hid (callsIn_wide.2 hck : CallsIn Fence.wide 5 _ _ _ _ _)
  have hA := file_one h hf ht 0
  have hfi := fits_any (hA.get List.mem_cons_self) A l c
  rw [decide_eq_true hl] at hfi
  have HFI := Lib.hid (callsIn_wide.2 hfi : CallsIn Fence.wide 5 _ _ _ _ _)
  have HA := Lib.hid hA
  have hc := fun j => cell_of_row w pf j _ _ _ hrow
  have hz := frozen_row hrow
  have hsz : (w.setCell ⟨pf, 6, none⟩ (.int .i64 0)).heap.size = w.heap.size := by simp [World.setCell]
  have HSZ := Lib.hid hsz
  have HK := Lib.hid hk
  have HP := Lib.hid hpos
  have HFU := Lib.hid hfull
  have HPU := Lib.hid hput
  have HOK := Lib.hid hok
  have HML := Lib.hid hml
  have HT := Lib.hid ht
  have HFF := Lib.hid hf
  clear h hf ht hs hck hA hl hk hpos hfull hput hok hml hfi hsz hrow
  refine callsIn_of_wp_marks Tryz.func12 rfl trivial ?_ rfl
  simp only [Tryz.ntmps12, List.size_toArray, List.length_cons, List.length_nil, Nat.reduceAdd, Nat.reduceSub, Array.replicate_succ, Array.replicate_zero, List.push_toArray, List.append_toArray, List.nil_append, List.cons_append]
  gi_wp2_with fail
  refine ⟨trivial, HCK.out.mono ?_⟩
  rintro e Y ⟨rfl, hY⟩
  subst hY
  clear HCK
  gi_wp2_with fail
  refine ⟨trivial, HFI.out.mono ?_⟩
  rintro e Y ⟨rfl, hY⟩
  subst hY
  clear HFI hc hz
  generalize hw5 : w.setCell ⟨pf, 6, none⟩ (.int .i64 0) = w5 at HA HSZ ⊢
  gi_wp2_with fail
  have HAL := Lib.hid (all_any pf (w5.alloc (boxN (.int .i64 1))))
  refine ⟨trivial, HAL.out.mono ?_⟩
  rintro e Y ⟨rfl, hY⟩
  clear HAL
  gi_wp2_with fail
  have hb6 : Below w5.heap.size w5 ((w5.alloc (boxN (.int .i64 1))).alloc (boxF pf)) := ((Below.refl _ w5).alloc (Nat.le_refl _) _).alloc (by simp) _
  have hbn : ((w5.alloc (boxN (.int .i64 1))).alloc (boxF pf)).heap[w5.heap.size]? = some (boxN (.int .i64 1)) := (Boxed.new w5 3 (.int .i64 1)).alloc _
  have hbx : ((w5.alloc (boxN (.int .i64 1))).alloc (boxF pf)).cell? ⟨w5.heap.size + 1, 0, none⟩ = some (.pointer (some ⟨pf, 0, none⟩)) := by
    have := (Boxed.new (w5.alloc (boxN (.int .i64 1))) 27 (.pointer (some ⟨pf, 0, none⟩))).cell
    rw [World.size_alloc] at this
    exact this
  have hsz6 : w5.heap.size + 2 ≤ ((w5.alloc (boxN (.int .i64 1))).alloc (boxF pf)).heap.size := by simp
  generalize ((w5.alloc (boxN (.int .i64 1))).alloc (boxF pf)) = w6 at hY hb6 hbn hbx hsz6 ⊢
  clear hY
  have HST := Lib.hid (all_stops 5 (by omega) (w5.heap.size + 1) ns (· = w5.heap.size) hnm (HA.out.below hb6) List.mem_cons_self HML.out HK.out HP.out hbx (fun k hk => by subst hk; omega))
  have HB6 := Lib.hid hb6
  have hpl := (Array.getElem?_eq_some_iff.1 (HA.out.get List.mem_cons_self)).1
  have HPL := Lib.hid hpl
  have HS6 := Lib.hid hsz6
  have HI6 := Lib.hid (show ApI w5 (nOf [] : Nat) w6 from ⟨hb6, hbn⟩)
  clear hb6 hbn hbx hpl hsz6
  refine wpIn_rangeFunc_ownF rfl (by omega) (gf := 75) (lb := #[.pointer (some ⟨w5.heap.size + 1, 0, none⟩)]) rfl trivial (enters_of Tryz.func75 (by kernel_rfl) rfl)
    HST.out KpG.t (fun W l o o' hl h hc _ => KpG.put (w := w6) (fun _ k hk => by have := HS6.out; subst hk; omega) (fun _ _ _ _ _ _ h => h) W l o o' hl h hc) (Below.refl _ _) (fun _ => rfl)
    (fun pr W => ApI w5 (nOf pr : Nat) W)
    (fun _ _ _ => False)
    (ap_own w6.heap.size w5 (fun pr => ((nOf pr : Nat) : Int)) (by have := HS6.out; omega))
    (fun _ _ _ _ _ h _ _ => h.elim)
    HI6.out
    (fun x => { tmps := #[.pointer (some ⟨pf, 0, none⟩), .slice A l c, undef, undef, .int .i64 0, .string ⟨#[]⟩, .string ⟨#[48, 48]⟩, .pointer (some ⟨w5.heap.size, 0, none⟩), encN x, undef, .pointer (some ⟨pf, 0, none⟩), .string ⟨#[48, 48]⟩, .string ⟨#[48, 48]⟩, .bool false, undef, .pointer (some ⟨pf, 0, none⟩), .pointer (some ⟨pf, 0, none⟩), .pointer (some ⟨pf, 6, none⟩), .pointer (some ⟨pf, 0, none⟩), .slice A l c, .bool true, .bool false, .pointer (some ⟨pf, 0, none⟩), .func (.func 75) #[] #[.pointer (some ⟨w5.heap.size + 1, 0, none⟩)], encN x, undef, undef, undef, undef, undef, undef, undef, undef, undef, undef, undef, undef], defers := [] }) ?assign ?body ?done ?stop
  case assign =>
    intro l x W K hK
    gi_wp2
    exact hK
  case body =>
    rintro l pr x W hI hlt
    have f1 := fun j => cell_of_row W w5.heap.size j _ _ _ hI.box
    have z1 := frozen_row hI.box
    have hx : (x.val : Int) + 1 ≤ 65537 := by have := x.isLt; omega
    have hw : wrap64 ((x.val : Int) + 1) = (x.val : Int) + 1 := IntWalk.wrap64_in _ (by omega)
    have HG := Lib.hid (kpg_set (W := W) (p := p) (pf := pf) (nm := nm) (rel := rel) (size := size) (b := w5.heap.size) (by have := HPL.out; omega) 0 (.int .i64 ((x.val : Int) + 1)))
    have HN := Lib.hid (show ApI w5 (nOf (pr ++ [x]) : Nat) (W.setCell ⟨w5.heap.size, 0, none⟩ (.int .i64 ((x.val : Int) + 1))) from ⟨hI.b.setCell (Nat.le_refl _) _, by rw [nOf_snoc]; exact blk_set hI.box 0 _⟩)
    clear hI hlt hx
    gi_wp2
    exact ⟨KeepsOthers.setCell _ _ _, HG.out, HN.out⟩
  case done =>
    rintro D ys W hD rfl hI hK
    have f1 := fun j => cell_of_row W w5.heap.size j _ _ _ hI.box
    have hlt : ∀ x ∈ (pf, fileO p nm rel size mode nxt 0) :: fs, x.1 < w5.heap.size := fun x hx => (Array.getElem?_eq_some_iff.1 (HA.out.get hx)).1
    have h6 := HS6.out
    have hadd := (HA.out.add hI.b (gs := [(D, .deferred (some [])), (w5.heap.size, boxN (.int .i64 (nOf ys : Nat)))]) (fun x hx => by
      simp only [List.mem_cons, List.not_mem_nil, or_false] at hx
      rcases hx with rfl | rfl
      · exact ⟨by show w5.heap.size ≤ D; omega, hK⟩
      · exact ⟨Nat.le_refl _, hI.box⟩)).less (gs := (pf, fileO p nm rel size mode nxt 0) :: (D, .deferred (some [])) :: (w5.heap.size, boxN (.int .i64 (nOf ys : Nat))) :: fs) (fun x hx => by
        simp only [List.mem_cons, List.mem_append, List.not_mem_nil, or_false] at hx ⊢
        rcases hx with h | h | h | h
        · exact .inr (.inl h)
        · exact .inl (.inl h)
        · exact .inl (.inr h)
        · exact .inr (.inr h))
    have hfin : ∀ t W', J.Two t → At w0 p ((pf, fileO p nm rel size mode nxt 0) :: (D, .deferred (some [])) :: (w5.heap.size, boxN (.int .i64 (nOf ys : Nat))) :: fs) t W' → At w0 p ((pf, fileO p nm rel size mode nxt 0) :: fs) t (W'.putObj D (.deferred none)) := fun t W' ht h => by
      refine (at_defer (fs := (pf, fileO p nm rel size mode nxt 0) :: (w5.heap.size, boxN (.int .i64 (nOf ys : Nat))) :: fs) (h.less (fun x hx => ?_)) (fun x hx => ?_) ht).less (fun x hx => ?_)
      · simp only [List.mem_cons] at hx ⊢
        rcases hx with h | h | h | h
        · exact .inr (.inl h)
        · exact .inl h
        · exact .inr (.inr (.inl h))
        · exact .inr (.inr (.inr h))
      · rcases List.mem_cons.1 hx with rfl | hx
        · have := hlt _ List.mem_cons_self; show pf ≠ D; have h7 : pf < w5.heap.size := this; omega
        · rcases List.mem_cons.1 hx with rfl | hx
          · show w5.heap.size ≠ D; omega
          · have := hlt _ (List.mem_cons_of_mem _ hx); omega
      · rcases List.mem_cons.1 hx with rfl | hx
        · exact List.mem_cons_self
        · exact List.mem_cons_of_mem _ (List.mem_cons_of_mem _ hx)
    have HFIN := Lib.hid hfin
    have HADD := Lib.hid hadd
    have HKD := Lib.hid hK
    clear hI hlt hadd hfin h6 hK HST HB6 HI6
    by_cases hn : 65536 < nOf ys
    · have hn1 : (65536 : Int) < (nOf ys : Nat) := by omega
      gi_wp2
      refine ⟨by simp, .inl ⟨_, _, rfl, run_takeDeferred HKD.out, ?_⟩⟩
      refine ⟨_, results_tmp2 rfl _ _ _, ?_⟩
      exact HFU.out hn _ (HFIN.out _ _ HT.out HADD.out)
    · have hn1 : ¬ (65536 : Int) < (nOf ys : Nat) := by omega
      have HPW := Lib.hid (HPU.out (by omega) _ W (fun x hx => List.mem_cons_of_mem _ (List.mem_cons_of_mem _ hx)) HADD.out)
      gi_wp2_with fail
      refine ⟨trivial, (callsIn_wide.2 HPW.out).mono ?_⟩
      rintro e W2 ⟨rfl, h2⟩
      have f2 := fun j => cell_of_row W2 w5.heap.size j _ _ _ (h2.get (List.mem_cons_of_mem _ (List.mem_cons_of_mem _ List.mem_cons_self)))
      have HK2 := Lib.hid (h2.get (List.mem_cons_of_mem _ List.mem_cons_self))
      have H2 := Lib.hid h2
      clear h2 HPW f1
      gi_wp2
      refine ⟨by simp, .inl ⟨_, _, rfl, run_takeDeferred HK2.out, ?_⟩⟩
      refine ⟨_, results_tmp2 rfl _ _ _, ?_⟩
      exact HOK.out (by omega) _ (HFIN.out _ _ ht2 H2.out)
  case stop =>
    rintro D c pr W hD hpre h hK
    exact h.elim
end
end Go.Proofs.YtjbepnkchoaipaaGreat
