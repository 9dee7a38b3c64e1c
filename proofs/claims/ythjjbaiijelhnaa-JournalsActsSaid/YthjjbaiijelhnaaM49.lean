import Derived.Test.YthjjbaiijelhnaaM27
import Derived.Test.YthjjbaiijelhnaaM31
set_option linter.unusedVariables false
set_option linter.unusedSimpArgs false
/- Contract: After: the first key with a prefix that is greater than a key, or not less. -/
namespace Go.Proofs.Ythjjbaiijelhnaa
open Go.RowKit Go.Lib Go.Maps Go.WideMaps Go.Sort Go.Shelf
set_option maxRecDepth 100000
attribute [local go_sem] Oper.semAt_some
theorem results_cell2 {P : Program} {fn : Func} {p u : Tmp} {t1 t2 : TypeId} (h : fn.results = #[.cell p t1, .cell u t2]) (tmps : Array Value) (w : World) (a b : Addr) (x y : Value) (hp : tmps.getD p undef = .pointer (some a)) (hu : tmps.getD u undef = .pointer (some b))
    (h1 : P.underlying t1 = some .string) (h2 : P.underlying t2 = some .bool) (hx : w.cell? a = some x) (hy : w.cell? b = some y) : (results fn tmps).run P w = .ok (.tuple #[x, y]) w := by
  have hp' : tmps[p]?.getD undef = .pointer (some a) := by simpa using hp
  have hu' : tmps[u]?.getD undef = .pointer (some b) := by simpa using hu
  simp [results, h, hp', hu', asAddr, loadVar, Sem.run_bind, isAgg, go_sem, run_underlying h1, run_underlying h2, hx, hy]
/-- Whether a key is greater than a key, or not less. -/
def aft (kl : J.B) (same : Bool) (k : J.B) : Bool := decide (kl < k) || (same && decide (k = kl))
def afterOf (m : List (J.B × J.B)) (pre : ByteArray) (kl : J.B) (same : Bool) : Option J.B := (keysOf m pre).find? (aft kl same)
theorem boxed_own {β : Type} (B b : Nat) (t : TypeId) (v : Value) : OwnFrom (β := β) B (fun _ W => Boxed W b t v) := fun _ W W' row h hg hr => by
  have h' : W.heap[b]? = _ := h
  refine (hg.block b (Array.getElem?_eq_some_iff.1 h').1 (fun e => ?_)).trans h'
  obtain ⟨_, o, ho, hc⟩ := hr b e.symm
  rw [h'] at ho
  injection ho with ho
  subst ho
  cases hc
theorem const_own {β : Type} (B : Nat) (p : β → Prop) : OwnFrom B (fun (x : β) (_ : World) => p x) := fun _ _ _ _ h _ _ => h
theorem kpF_put (w : World) (W : World) (l : Nat) (o o' : Obj) (_ : w.heap.size ≤ l) (h : W.heap[l]? = some o) (hc : o.isCells = false) (_ : o.isWalk = false) : KpC (fun _ _ => False) W (W.putObj l o') := by
  refine ⟨fun k q hq hqc _ => ?_, by simp, fun k _ hk => hk.elim⟩
  have : k ≠ l := fun e => by subst e; rw [h] at hq; injection hq with hq; subst hq; rw [hc] at hqc; cases hqc
  exact (World.putObj_heap_other this).trans hq
theorem kpF_refl (W : World) : KpC (fun _ _ => False) W W := ⟨fun _ _ h _ _ => h, Nat.le_refl _, fun _ _ h => h⟩
theorem find_of_prefix {α : Type} {p : α → Bool} {q l : List α} {x : α} (h : q ++ [x] <+: l) (hq : ∀ y ∈ q, p y = false) (hx : p x = true) : l.find? p = some x := by
  obtain ⟨t, rfl⟩ := h
  rw [List.append_assoc, List.find?_append]
  have h0 : q.find? p = none := by
    rw [List.find?_eq_none]; intro y hy; rw [hq y hy]; decide
  rw [h0]
  simp [hx]
theorem eq_enc (x k : J.B) : ((⟨x.toArray⟩ : ByteArray).toList == (⟨k.toArray⟩ : ByteArray).toList) = decide (x = k) := by
  have h : ∀ l : J.B, (⟨l.toArray⟩ : ByteArray).toList = l := fun l => by rw [ByteArray.toList_eq]
  rw [h, h]; by_cases e : x = k <;> simp [e]
theorem aft_cases (x kl kl2 : J.B) (hk : kl2 = kl) : (Op.bytesLess x kl2 = false ∧ (x == kl2) = false ∧ ∀ same, aft kl same x = true) ∨ (Op.bytesLess x kl2 = false ∧ (x == kl2) = true ∧ ∀ same, aft kl same x = same) ∨ (Op.bytesLess x kl2 = true ∧ (x == kl2) = false ∧ ∀ same, aft kl same x = false) := by
  subst hk
  rw [bytesLess_eq]
  unfold aft
  generalize kl2 = kl
  by_cases h1 : x < kl
  · have h2 : ¬ kl < x := fun h => List.lt_asymm h1 h
    have h3 : x ≠ kl := fun h => by subst h; exact List.lt_irrefl _ h1
    exact .inr (.inr ⟨by simp [h1], by simpa using h3, fun same => by simp [h2, h3]⟩)
  · by_cases h3 : x = kl
    · refine .inr (.inl ⟨by simp [h1], by simpa using h3, fun same => ?_⟩)
      subst h3
      simp [List.lt_irrefl]
    · have h2 : kl < x := by
        by_cases h : kl < x
        · exact h
        · exact absurd (List.le_antisymm (List.not_lt.1 h) (List.not_lt.1 h1)) h3
      exact .inl ⟨by simp [h1], by simpa using h3, fun same => by simp [h2]⟩
structure AftI (kl : J.B) (key : ByteArray) (same : Bool) (w : World) (r : J.B) (b : Bool) (W : World) : Prop where
  k : Boxed W w.heap.size 9 (.string key)
  s : Boxed W (w.heap.size + 1) 4 (.bool same)
  r : Boxed W (w.heap.size + 1 + 1) 9 (.string ⟨r.toArray⟩)
  b : Boxed W (w.heap.size + 1 + 1 + 1) 4 (.bool b)
  bel : Below w.heap.size w W
theorem aftI_own {β : Type} {kl : J.B} {key : ByteArray} {same : Bool} {w : World} {r : J.B} {b : Bool} (B : Nat) (hB : w.heap.size ≤ B) : OwnFrom (β := β) B (fun _ W => AftI kl key same w r b W) := fun x W W' row h hg hr =>
  ⟨boxed_own B _ _ _ x W W' row h.k hg hr, boxed_own B _ _ _ x W W' row h.s hg hr, boxed_own B _ _ _ x W W' row h.r hg hr, boxed_own B _ _ _ x W W' row h.b hg hr, ownFrom_below (Nat.le_refl _) hB x W W' row h.bel hg hr⟩
set_option maxHeartbeats 2000000 in
theorem after_any (p : Nat) (pre : ByteArray) (kl : J.B) (same : Bool) (M : Nat → Prop) (s : J.St) (w : World) (h : StoreR w p M s) (hml : s.now.length ≤ 100000000) :
    CallsIn Fence.wide 6 Try.prog 27 #[.pointer (some ⟨p, 0, none⟩), .string pre, .string ⟨kl.toArray⟩, .bool same] w fun e w' => e = .returned (.tuple #[.string ⟨((afterOf s.now pre kl same).getD []).toArray⟩, .bool (afterOf s.now pre kl same).isSome]) ∧ Below w.heap.size w w' := by
  generalize hkk : (⟨kl.toArray⟩ : ByteArray) = key
  have HKK := Lib.hid hkk
  obtain ⟨w4, hw4⟩ : ∃ w4, (((w.alloc (.cells #[.string key] 9)).alloc (.cells #[.bool same] 4)).alloc (.cells #[.string ⟨#[]⟩] 9)).alloc (.cells #[.bool false] 4) = w4 := ⟨_, rfl⟩
  have hb4 : Below w.heap.size w w4 := by
    rw [← hw4]; exact ((((Below.refl _ w).alloc (Nat.le_refl _) _).alloc (by simp) _).alloc (by simp; omega) _).alloc (by simp; omega) _
  have hI4 : AftI kl key same w [] false w4 := by
    rw [← hw4]
    refine ⟨?_, ?_, ?_, ?_, by rw [hw4]; exact hb4⟩
    · exact (((Boxed.new w 9 (.string key)).alloc _).alloc _).alloc _
    · have := (((Boxed.new (w.alloc (.cells #[.string key] 9)) 4 (.bool same))).alloc (.cells #[.string ⟨#[]⟩] 9)).alloc (.cells #[.bool false] 4)
      simpa using this
    · have := (Boxed.new ((w.alloc (.cells #[.string key] 9)).alloc (.cells #[.bool same] 4)) 9 (.string ⟨#[]⟩)).alloc (.cells #[.bool false] 4)
      simpa using this
    · have := Boxed.new (((w.alloc (.cells #[.string key] 9)).alloc (.cells #[.bool same] 4)).alloc (.cells #[.string ⟨#[]⟩] 9)) 4 (.bool false)
      simpa using this
  have HRD := Lib.hid (callsIn_wide.2 (ready_any p M s w4 (h.below hb4)) : CallsIn Fence.wide 5 _ _ _ _ _)
  have HS := Lib.hid (sorted_any (.pointer (some ⟨p, 0, none⟩)) pre w4 ⟨_, rfl⟩)
  obtain ⟨w6, hw6⟩ : ∃ w6, (w4.alloc (.cells #[.pointer (some ⟨p, 0, none⟩)] 24)).alloc (.cells #[.string pre] 9) = w6 := ⟨_, rfl⟩
  have hb46 : Below w4.heap.size w4 w6 := by rw [← hw6]; exact ((Below.refl _ w4).alloc (Nat.le_refl _) _).alloc (by simp) _
  have hb6 : Below w.heap.size w w6 := hb4.trans (hb46.mono hb4.size)
  have hIs : AftI kl key same w [] false w6 := by
    obtain ⟨i1, i2, i3, i4, i5⟩ := hI4
    rw [← hw6]
    exact ⟨(i1.alloc _).alloc _, (i2.alloc _).alloc _, (i3.alloc _).alloc _, (i4.alloc _).alloc _, by rw [hw6]; exact hb6⟩
  have hst : SeqStopsK Fence.wide 5 Try.prog 73 #[.pointer (some ⟨w4.heap.size, 0, none⟩), .pointer (some ⟨w4.heap.size + 1, 0, none⟩)] (fun x => #[encStr x]) (KpC (fun _ _ => False)) (fun ys => ys = keysOf s.now pre) (fun q => q <+: keysOf s.now pre) (keysOf s.now pre).length w6 := by
    obtain ⟨bn, bw, ch, wr, b0, b1, b2, b3, d0, d1, d2, d3, h1, h2, h3, h4⟩ := h
    have hm6 := h3.now.step (Step.of_below hb6) (hb6.block bn h3.now.lt)
    have hc6 := (hb6.cell (p := ⟨p, 2, none⟩) (Array.getElem?_eq_some_iff.1 h1).1).trans (cell_of_row w p 2 _ _ _ h1)
    refine sorted_stops 5 (by omega) w4.heap.size (w4.heap.size + 1) p bn pre s.now M (fun _ _ => False) hml w6 ?_ ?_ hc6 hm6 (fun _ _ _ h => h.elim)
    · rw [← hw6]; exact ((Boxed.new w4 24 (.pointer (some ⟨p, 0, none⟩))).alloc _).cell
    · have := (Boxed.new (w4.alloc (.cells #[.pointer (some ⟨p, 0, none⟩)] 24)) 9 (.string pre)).cell
      rw [← hw6]; rw [World.size_alloc] at this; exact this
  have HST := Lib.hid hst
  have HI6 := Lib.hid hIs
  clear hst hIs h hml hI4 hb4 hb46 hb6
  refine callsIn_of_wp_marks Try.func27 rfl trivial ?_ rfl
  simp only [Try.ntmps27, List.size_toArray, List.length_cons, List.length_nil, Nat.reduceAdd, Nat.reduceSub, Array.replicate_succ, Array.replicate_zero, List.push_toArray, List.append_toArray, List.nil_append, List.cons_append]
  gi_wp2_with fail
  refine ⟨trivial, HRD.out.mono ?_⟩
  rintro e Y ⟨rfl, hY⟩
  subst hY
  gi_wp2_with fail
  refine ⟨trivial, HS.out.mono ?_⟩
  rintro e Y ⟨rfl, hY⟩
  rw [hw6] at hY
  subst hY
  clear hw4 hw6 HRD HS
  gi_wp2_with fail
  have hBz : w.heap.size ≤ Y.heap.size := HI6.out.bel.size
  refine wpIn_rangeFunc_ownF rfl (by omega) (gf := 73) (lb := #[.pointer (some ⟨w4.heap.size, 0, none⟩), .pointer (some ⟨w4.heap.size + 1, 0, none⟩)]) rfl trivial (enters_of Try.func73 (by kernel_rfl) rfl)
    HST.out KpC.t (fun W l o o' hl h hc hw => kpF_put Y W l o o' hl h hc hw) (Below.refl _ _) (fun _ => rfl)
    (fun pr W => (∀ y ∈ pr, aft kl same y = false) ∧ AftI kl key same w [] false W)
    (fun c pr W => (c = .ret ∧ ∃ q x, pr = q ++ [x] ∧ (∀ y ∈ q, aft kl same y = false) ∧ aft kl same x = true ∧ AftI kl key same w x true W))
    (OwnFrom.and (const_own _ _) (aftI_own _ hBz))
    (fun c pr W W' row h hg hr => by
      obtain ⟨h1, q, x, h2, h3, h4, h5⟩ := h
      exact ⟨h1, q, x, h2, h3, h4, aftI_own (β := List J.B) _ hBz pr W W' row h5 hg hr⟩)
    ⟨(fun _ h => by cases h), HI6.out⟩
    (fun x => { tmps := #[.pointer (some ⟨p, 0, none⟩), .string pre, .string key, .bool same, undef, undef, .pointer (some ⟨w.heap.size, 0, none⟩), .pointer (some ⟨w.heap.size + 1, 0, none⟩), .pointer (some ⟨w.heap.size + 1 + 1, 0, none⟩), .pointer (some ⟨w.heap.size + 1 + 1 + 1, 0, none⟩), encStr x, .pointer (some ⟨p, 0, none⟩), .bool true, .bool false, .pointer (some ⟨p, 0, none⟩), .string pre, .func (.func 73) #[] #[.pointer (some ⟨w4.heap.size, 0, none⟩), .pointer (some ⟨w4.heap.size + 1, 0, none⟩)], encStr x, undef, undef, undef, undef, undef, undef, undef, undef, undef, undef, undef, undef], defers := [] }) ?assign ?body ?done ?stop
  case assign =>
    intro l x W K hK
    gi_wp2
    exact hK
  case body =>
    rintro l pr x W ⟨hpr, hI⟩ hlt
    have hk := hI.k.cell
    have hs := hI.s.cell
    have hr := hI.r.cell
    have hb := hI.b.cell
    have hrf := hI.r.frozen
    have hbf := hI.b.frozen
    have HI := Lib.hid hI
    have HP := Lib.hid hpr
    have hkl : key.toList = kl := by rw [← HKK.out, ByteArray.toList_eq]
    have hcs := aft_cases x kl _ hkl
    clear hI hpr hkl hkk
    have stop : ∀ W2, W2 = (W.setCell ⟨w.heap.size + 1 + 1, 0, none⟩ (.string ⟨x.toArray⟩)).setCell ⟨w.heap.size + 1 + 1 + 1, 0, none⟩ (.bool true) → aft kl same x = true → KeepsOthers W W2 ∧ ∃ q y, pr ++ [x] = q ++ [y] ∧ (∀ z ∈ q, aft kl same z = false) ∧ aft kl same y = true ∧ AftI kl key same w y true W2 := by
      rintro W2 rfl ha
      obtain ⟨i1, i2, i3, i4, i5⟩ := HI.out
      refine ⟨(KeepsOthers.setCell W _ _).trans (KeepsOthers.setCell _ _ _), pr, x, rfl, HP.out, ha, ?_, ?_, ?_, ?_, ?_⟩
      · exact (i1.other (by omega) _).other (by omega) _
      · exact (i2.other (by omega) _).other (by omega) _
      · exact (i3.set _).other (by omega) _
      · exact (i4.other (by omega) _).set _
      · exact (i5.setCell (by show w.heap.size ≤ w.heap.size + 1 + 1; omega) _).setCell (by show w.heap.size ≤ w.heap.size + 1 + 1 + 1; omega) _
    have hstop := Lib.hid stop
    have go : aft kl same x = false → KeepsOthers W W ∧ KpC (fun _ _ => False) W W ∧ (∀ y ∈ pr ++ [x], aft kl same y = false) ∧ AftI kl key same w [] false W := fun ha => ⟨KeepsOthers.refl W, kpF_refl W, fun y hy => by
      rcases List.mem_append.1 hy with h | h
      · exact HP.out y h
      · simp at h; subst h; exact ha, HI.out⟩
    have hgo := Lib.hid go
    clear stop go
    rcases hcs with ⟨c1, c2, c3⟩ | ⟨c1, c2, c3⟩ | ⟨c1, c2, c3⟩
    · have hc := Lib.hid (c3 same)
      clear c3
      gi_wp2
      exact ⟨(hstop.out _ rfl hc.out).1, rfl, (hstop.out _ rfl hc.out).2⟩
    · have hc := Lib.hid (c3 same)
      clear c3
      cases same
      · gi_wp2
        exact hgo.out hc.out
      · gi_wp2
        exact ⟨(hstop.out _ rfl hc.out).1, rfl, (hstop.out _ rfl hc.out).2⟩
    · have hc := Lib.hid (c3 same)
      clear c3
      cases same
      · gi_wp2
        exact hgo.out hc.out
      · gi_wp2
        exact hgo.out hc.out
  case done =>
    rintro D ys W hD rfl ⟨hpr, hI⟩ hK
    have hr := hI.r.cell
    have hb := hI.b.cell
    have hrf := hI.r.frozen
    have hbf := hI.b.frozen
    have hno : afterOf s.now pre kl same = none := List.find?_eq_none.2 (fun y hy => by rw [hpr y hy]; decide)
    have hI2 : AftI kl key same w [] false ((W.setCell ⟨w.heap.size + 1 + 1, 0, none⟩ (.string ⟨#[]⟩)).setCell ⟨w.heap.size + 1 + 1 + 1, 0, none⟩ (.bool false)) := by
      obtain ⟨i1, i2, i3, i4, i5⟩ := hI
      refine ⟨?_, ?_, ?_, ?_, ?_⟩
      · exact (i1.other (by omega) _).other (by omega) _
      · exact (i2.other (by omega) _).other (by omega) _
      · exact (i3.set _).other (by omega) _
      · exact (i4.other (by omega) _).set _
      · exact (i5.setCell (by show w.heap.size ≤ w.heap.size + 1 + 1; omega) _).setCell (by show w.heap.size ≤ w.heap.size + 1 + 1 + 1; omega) _
    have hDD : w.heap.size + 4 ≤ D := Nat.le_trans (by have := HI6.out.b.lt; omega) hD
    have hK2 : ((W.setCell ⟨w.heap.size + 1 + 1, 0, none⟩ (.string ⟨#[]⟩)).setCell ⟨w.heap.size + 1 + 1 + 1, 0, none⟩ (.bool false)).heap[D]? = some (.deferred (some [])) := by
      rw [Below.heap_setCell _ _ _ D (by show D ≠ w.heap.size + 1 + 1 + 1; omega), Below.heap_setCell _ _ _ D (by show D ≠ w.heap.size + 1 + 1; omega)]; exact hK
    have HI2 := Lib.hid hI2
    have HK2 := Lib.hid hK2
    have HNO := Lib.hid hno
    clear hI hI2 hK2 hno hpr
    gi_wp2
    refine ⟨by simp, .inl ⟨_, _, rfl, run_takeDeferred HK2.out, ?_⟩⟩
    have hF := aftI_own (β := Unit) Y.heap.size hBz () _ _ (some D) HI2.out (grownBy_putObj' _ D (.deferred none)) (fun r e => by cases e; exact ⟨hD, _, HK2.out, rfl⟩)
    refine ⟨_, results_cell2 rfl _ _ _ _ _ _ rfl rfl Try.underlying9 Try.underlying4 hF.r.cell hF.b.cell, ?_, hF.bel⟩
    rw [HNO.out]; rfl
  case stop =>
    rintro D c pr W hD hpre ⟨rfl, q, x, rfl, hq, hx, hI⟩ hK
    have hsm : afterOf s.now pre kl same = some x := find_of_prefix hpre hq hx
    gi_wp2
    refine ⟨by simp, .inl ⟨_, _, rfl, run_takeDeferred hK, ?_⟩⟩
    have hF := aftI_own (β := Unit) Y.heap.size hBz () _ _ (some D) hI (grownBy_putObj' _ D (.deferred none)) (fun r e => by cases e; exact ⟨hD, _, hK, rfl⟩)
    refine ⟨_, results_cell2 rfl _ _ _ _ _ _ rfl rfl Try.underlying9 Try.underlying4 hF.r.cell hF.b.cell, ?_, hF.bel⟩
    rw [hsm]; rfl
theorem at_after {w0 w : World} {p : Nat} {s : J.St} (h : At w0 p s w) (pre : ByteArray) (kl : J.B) (same : Bool) (hml : s.now.length ≤ 100000000) :
    Calls Try.prog 27 #[.pointer (some ⟨p, 0, none⟩), .string pre, .string ⟨kl.toArray⟩, .bool same] w fun e w' => e = .returned (.tuple #[.string ⟨((afterOf s.now pre kl same).getD []).toArray⟩, .bool (afterOf s.now pre kl same).isSome]) ∧ Below w.heap.size w w' := by
  obtain ⟨M, h1, _, _⟩ := h
  exact callsIn_wide.1 (after_any p pre kl same M s w h1 hml)
end Go.Proofs.Ythjjbaiijelhnaa
