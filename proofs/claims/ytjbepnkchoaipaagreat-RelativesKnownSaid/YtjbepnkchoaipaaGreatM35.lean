import Derived.Test.YtjbepnkchoaipaaGreatM34
set_option linter.unusedVariables false
set_option linter.unusedSimpArgs false
/- Law 31: old, and the closures that it takes. -/
namespace Go.Proofs.YtjbepnkchoaipaaGreat
open Go.RowKit Go.Lib Go.Maps Go.WideMaps Go.Sort
set_option maxRecDepth 100000
section
variable {w0 : World} {p pf : Nat} {nm : J.B} {rel : Bool} {size mode nxt last : Nat} {w : World} {s s1 s2 : J.St} {fs : List (Nat × Obj)}
theorem delete1_any (v : Value) (w : World) :
    Calls Tryz.prog 64 (#[v] ++ #[]) w fun e w' => e = .returned (.bool true) ∧ w = w' := by
  go_enter Tryz.func64, Tryz.ntmps64
  go_wp2
  go_ret
  exact ⟨rfl, rfl⟩
/-- No record was read last. -/
theorem old_zero (h : At w0 p ((pf, fileO p nm rel size mode nxt 0) :: fs) s w) (hf : ∀ x ∈ fs, x.1 ≠ pf) (ht : J.Two s) (f : Value) :
    Calls Tryz.prog 46 #[.pointer (some ⟨pf, 0, none⟩), .int .i64 0, f] w fun e w' => e = .returned (.tuple #[.int .i64 0, .string ⟨#[52, 51]⟩]) ∧ At w0 p ((pf, fileO p nm rel size mode nxt 0) :: fs) s w' := by
  have hrow := h.get List.mem_cons_self
  have HA := Lib.hid (file_one h hf ht 0)
  have hc := fun j => cell_of_row w pf j _ _ _ hrow
  have hz := frozen_row hrow
  clear h hf ht
  go_enter Tryz.func46, Tryz.ntmps46
  go_wp2
  go_ret2
  exact ⟨rfl, HA.out⟩
/-- What old returns. -/
def oldN (r is : Bool) (n : Nat) : Nat := if r && is then n else 0
def oldS (r is : Bool) : J.B := if r then (if is then [48, 48] else [50, 51]) else [52, 52]
theorem old_out (h : At w0 p ((pf, fileO p nm rel size mode nxt last) :: fs) s w) (hf : ∀ x ∈ fs, x.1 ≠ pf) (ht : J.Two s) (k : Int) (hk : k < 0 ∨ 65536 < k)
    (g : Nat) (caps : Array Value) (he : ∀ v w, (callFunc g (#[v] ++ caps)).run Tryz.prog w = .ok (.enter g (#[v] ++ caps)) w) (r : Bool)
    (hcl : ∀ w1, At w0 p ((pf, fileO p nm rel size mode nxt 0) :: fs) s w1 → Calls Tryz.prog g (#[.slice none 0 0] ++ caps) w1 fun e w' => e = .returned (.bool r) ∧ w1 = w') :
    Calls Tryz.prog 46 #[.pointer (some ⟨pf, 0, none⟩), .int .i64 k, .func (.func g) #[] caps] w fun e w' => e = .returned (.tuple #[.int .i64 0, .string ⟨(oldS r false).toArray⟩]) ∧ At w0 p ((pf, fileO p nm rel size mode nxt 0) :: fs) s w' := by
  have hrow := h.get List.mem_cons_self
  have hA := file_one h hf ht 0
  have HCL := Lib.hid (hcl _ hA)
  have HA := Lib.hid hA
  have hc := fun j => cell_of_row w pf j _ _ _ hrow
  have hz := frozen_row hrow
  have k0 : ¬ k = 0 := by omega
  clear h hf ht hcl hA
  rcases hk with hk | hk
  · have k1 : ¬ 0 < k := by omega
    go_enter Tryz.func46, Tryz.ntmps46
    go_wp2_with fail
    refine HCL.out.mono ?_
    rintro e w1 ⟨rfl, hw⟩
    clear HCL
    subst hw
    cases r
    all_goals
      go_wp2
      go_ret2
      exact ⟨rfl, HA.out⟩
  · have k1 : 0 < k := by omega
    have k2 : ¬ k ≤ 65536 := by omega
    go_enter Tryz.func46, Tryz.ntmps46
    go_wp2_with fail
    refine HCL.out.mono ?_
    rintro e w1 ⟨rfl, hw⟩
    clear HCL
    subst hw
    cases r
    all_goals
      go_wp2
      go_ret2
      exact ⟨rfl, HA.out⟩
theorem old_in (h : At w0 p ((pf, fileO p nm rel size mode nxt last) :: fs) s w) (hf : ∀ x ∈ fs, x.1 ≠ pf) (ht : J.Two s) (k : Int) (n : Nat) (h1 : 1 ≤ n) (h2 : n ≤ 65536) (hk : k = n ∨ k = 0 ∧ last = n) (hnm : nm.length ≤ 100) (hll : ∀ l, J.look s.now (R.key nm n) = some l → l.length ≤ 90000000)
    (g : Nat) (caps : Array Value) (he : ∀ v w, (callFunc g (#[v] ++ caps)).run Tryz.prog w = .ok (.enter g (#[v] ++ caps)) w) (r : Bool)
    (hcl : ∀ v w1, At w0 p ((pf, fileO p nm rel size mode nxt 0) :: fs) s w1 → Sl w1 NoM v ((J.look s.now (R.key nm n)).getD []) → Calls Tryz.prog g (#[v] ++ caps) w1 fun e w' => e = .returned (.bool r) ∧ w1 = w') :
    Calls Tryz.prog 46 #[.pointer (some ⟨pf, 0, none⟩), .int .i64 k, .func (.func g) #[] caps] w fun e w' => e = .returned (.tuple #[.int .i64 (oldN r (J.look s.now (R.key nm n)).isSome n : Nat), .string ⟨(oldS r (J.look s.now (R.key nm n)).isSome).toArray⟩]) ∧ At w0 p ((pf, fileO p nm rel size mode nxt 0) :: fs) s w' := by
  have hrow := h.get List.mem_cons_self
  have hA := file_one h hf ht 0
  have HRC := Lib.hid (frecord_any hA List.mem_cons_self (n : Nat) hnm (by rw [num32_nat (by omega)]; exact hll))
  rw [num32_nat (by omega)] at HRC
  generalize J.look s.now (R.key nm n) = lk at HRC hcl hll ⊢
  have HCL := Lib.hid hcl
  have hc := fun j => cell_of_row w pf j _ _ _ hrow
  have hz := frozen_row hrow
  have n0 : ¬ (n : Int) = 0 := by omega
  have n1 : (0 : Int) < (n : Int) := by omega
  have n2 : (n : Int) ≤ 65536 := by omega
  clear h hf ht hcl hA hll
  rcases hk with rfl | ⟨rfl, rfl⟩
  all_goals
    go_enter Tryz.func46, Tryz.ntmps46
    go_wp2_with fail
    refine HRC.out.mono ?_
    rintro e w2 ⟨v, rfl, hs, ha, _⟩
    have HCW := Lib.hid (HCL.out v w2 ha (hs.sl.weak (fun _ h => h.elim)))
    have HA2 := Lib.hid ha
    clear ha hs HRC HCL hc hz
    go_wp2_with fail
    refine HCW.out.mono ?_
    rintro e w3 ⟨rfl, hw⟩
    clear HCW
    subst hw
    cases r <;> cases lk
    all_goals
      go_wp2
      go_ret2
      exact ⟨rfl, HA2.out⟩
/-- Rewrite$1. -/
theorem rewrite1_any (hrow : w.heap[pf]? = some (fileO p nm rel size mode nxt last)) (Bf Bb : Nat) (A Av : Option Addr) (l c lv cv : Nat) (h1 : w.cell? ⟨Bf, 0, none⟩ = some (.pointer (some ⟨pf, 0, none⟩))) (h2 : w.cell? ⟨Bb, 0, none⟩ = some (.slice A l c)) :
    Calls Tryz.prog 47 (#[.slice Av lv cv] ++ #[.pointer (some ⟨Bf, 0, none⟩), .pointer (some ⟨Bb, 0, none⟩)]) w fun e w' => e = .returned (.bool (decide (0 < l ∧ l ≤ size) && (rel || decide (lv = l)))) ∧ w = w' := by
  have HFI := Lib.hid (fits_any hrow A l c)
  have hc := fun j => cell_of_row w pf j _ _ _ hrow
  clear hrow
  show Calls Tryz.prog 47 #[.slice Av lv cv, .pointer (some ⟨Bf, 0, none⟩), .pointer (some ⟨Bb, 0, none⟩)] w _
  by_cases hl : 0 < l ∧ l ≤ size
  · rw [decide_eq_true hl] at HFI ⊢
    clear hl
    cases rel
    · by_cases he : lv = l
      · subst he
        go_enter Tryz.func47, Tryz.ntmps47
        go_wp2_with fail
        refine HFI.out.mono ?_
        rintro e w1 ⟨rfl, hw⟩
        clear HFI
        subst hw
        go_wp2
        go_ret
        exact ⟨by simp, rfl⟩
      · have he2 : ¬ ((lv : Int) = (l : Int)) := by omega
        go_enter Tryz.func47, Tryz.ntmps47
        go_wp2_with fail
        refine HFI.out.mono ?_
        rintro e w1 ⟨rfl, hw⟩
        clear HFI
        subst hw
        go_wp2
        go_ret
        exact ⟨by simp [he]; exact he2, rfl⟩
    · go_enter Tryz.func47, Tryz.ntmps47
      go_wp2_with fail
      refine HFI.out.mono ?_
      rintro e w1 ⟨rfl, hw⟩
      clear HFI
      subst hw
      go_wp2
      go_ret
      exact ⟨rfl, rfl⟩
  · rw [decide_eq_false hl] at HFI ⊢
    clear hl
    go_enter Tryz.func47, Tryz.ntmps47
    go_wp2_with fail
    refine HFI.out.mono ?_
    rintro e w1 ⟨rfl, hw⟩
    clear HFI
    subst hw
    go_wp2
    go_ret
    exact ⟨rfl, rfl⟩
end
end Go.Proofs.YtjbepnkchoaipaaGreat
/- Law 31: Delete and Rewrite. -/
namespace Go.Proofs.YtjbepnkchoaipaaGreat
open Go.RowKit Go.Lib Go.Maps Go.WideMaps Go.Sort
set_option maxRecDepth 100000
section
variable {w0 : World} {p pf : Nat} {nm : J.B} {rel : Bool} {size mode nxt last : Nat} {w : World} {s s1 s2 : J.St} {fs : List (Nat × Obj)}
/-- The box of a pointer to a file. -/
abbrev boxF (pf : Nat) : Obj := .cells #[.pointer (some ⟨pf, 0, none⟩)] 27 (0, 0)
abbrev boxN (v : Value) : Obj := .cells #[v] 3 (0, 0)
abbrev boxB (v : Value) : Obj := .cells #[v] 37 (0, 0)
theorem At.boxF (h : At w0 p ((pf, fileO p nm rel size mode nxt last) :: fs) s w) (hf : ∀ x ∈ fs, x.1 ≠ pf) : At w0 p ((pf, fileO p nm rel size mode nxt last) :: (w.heap.size, Proofs.YtjbepnkchoaipaaGreat.boxF pf) :: fs) s (w.alloc (Proofs.YtjbepnkchoaipaaGreat.boxF pf)) ∧ ∀ x ∈ ((w.heap.size, Proofs.YtjbepnkchoaipaaGreat.boxF pf) :: fs), x.1 ≠ pf := by
  have hl := (Array.getElem?_eq_some_iff.1 (h.get List.mem_cons_self)).1
  refine ⟨(h.more (Proofs.YtjbepnkchoaipaaGreat.boxF pf)).less (fun x hx => ?_), fun x hx => ?_⟩
  · rcases List.mem_cons.1 hx with rfl | hx
    · exact List.mem_cons_of_mem _ List.mem_cons_self
    · rcases List.mem_cons.1 hx with rfl | hx
      · exact List.mem_cons_self
      · exact List.mem_cons_of_mem _ (List.mem_cons_of_mem _ hx)
  · rcases List.mem_cons.1 hx with rfl | hx
    · show w.heap.size ≠ pf; omega
    · exact hf x hx
theorem At.boxB (h : At w0 p ((pf, fileO p nm rel size mode nxt last) :: fs) s w) (hf : ∀ x ∈ fs, x.1 ≠ pf) (v : Value) : At w0 p ((pf, fileO p nm rel size mode nxt last) :: (w.heap.size, Proofs.YtjbepnkchoaipaaGreat.boxB v) :: fs) s (w.alloc (Proofs.YtjbepnkchoaipaaGreat.boxB v)) ∧ ∀ x ∈ ((w.heap.size, Proofs.YtjbepnkchoaipaaGreat.boxB v) :: fs), x.1 ≠ pf := by
  have hl := (Array.getElem?_eq_some_iff.1 (h.get List.mem_cons_self)).1
  refine ⟨(h.more (Proofs.YtjbepnkchoaipaaGreat.boxB v)).less (fun x hx => ?_), fun x hx => ?_⟩
  · rcases List.mem_cons.1 hx with rfl | hx
    · exact List.mem_cons_of_mem _ List.mem_cons_self
    · rcases List.mem_cons.1 hx with rfl | hx
      · exact List.mem_cons_self
      · exact List.mem_cons_of_mem _ (List.mem_cons_of_mem _ hx)
  · rcases List.mem_cons.1 hx with rfl | hx
    · show w.heap.size ≠ pf; omega
    · exact hf x hx
theorem boxN_noBy {b : Nat} {v : Value} (h : w.heap[b]? = some (boxN v)) : NoBy w b := by
  refine ⟨fun o u u' hh => ?_, fun ⟨_, cur, fr, e⟩ => ?_⟩
  · rw [cell_of_row w b (o + 1) _ _ _ h] at hh
    rcases o with _ | o <;> simp at hh
  · rw [h] at e
    injection e with e
    injection e with e1 e2
    exact absurd e2 (by decide)
/-- A new number's block. -/
theorem At.boxN (h : At w0 p ((pf, fileO p nm rel size mode nxt last) :: fs) s w) (hf : ∀ x ∈ fs, x.1 ≠ pf) (b : Value) : At w0 p ((pf, fileO p nm rel size mode nxt last) :: (w.heap.size, Proofs.YtjbepnkchoaipaaGreat.boxN b) :: fs) s (w.alloc (Proofs.YtjbepnkchoaipaaGreat.boxN b)) ∧ ∀ x ∈ ((w.heap.size, Proofs.YtjbepnkchoaipaaGreat.boxN b) :: fs), x.1 ≠ pf := by
  have hl := (Array.getElem?_eq_some_iff.1 (h.get List.mem_cons_self)).1
  refine ⟨(h.more (Proofs.YtjbepnkchoaipaaGreat.boxN b)).less (fun x hx => ?_), fun x hx => ?_⟩
  · rcases List.mem_cons.1 hx with rfl | hx
    · exact List.mem_cons_of_mem _ List.mem_cons_self
    · rcases List.mem_cons.1 hx with rfl | hx
      · exact List.mem_cons_self
      · exact List.mem_cons_of_mem _ (List.mem_cons_of_mem _ hx)
  · rcases List.mem_cons.1 hx with rfl | hx
    · show w.heap.size ≠ pf; omega
    · exact hf x hx
theorem delete_shut (h : At w0 p ((pf, fileO p nm rel size mode nxt last) :: fs) s w) (hf : ∀ x ∈ fs, x.1 ≠ pf) (k : Int) (hs : chk [52, 57] true 3 3 rel mode ≠ [48, 48]) :
    Calls Tryz.prog 28 #[.pointer (some ⟨pf, 0, none⟩), .int .i64 k] w fun e w' => e = .returned (.string ⟨(chk [52, 57] true 3 3 rel mode).toArray⟩) ∧ At w0 p ((pf, fileO p nm rel size mode nxt last) :: fs) s w' := by
  obtain ⟨hB, _⟩ := h.boxF hf
  have HCK := Lib.hid (fcheck_any (wrong := [52, 57]) (need := true) (a := 3) (b := 3) (hB.get List.mem_cons_self))
  have HB := Lib.hid hB
  have hne := chk_ne hs
  generalize (⟨(chk [52, 57] true 3 3 rel mode).toArray⟩ : ByteArray) = st at HCK hne ⊢
  clear hs h hB hf
  go_enter Tryz.func28, Tryz.ntmps28
  go_wp2_with fail
  refine HCK.out.mono ?_
  rintro e w1 ⟨rfl, hw⟩
  clear HCK
  subst hw
  go_wp2
  go_ret
  exact ⟨rfl, HB.out.less (fun x hx => by
    rcases List.mem_cons.1 hx with rfl | hx
    · exact List.mem_cons_self
    · exact List.mem_cons_of_mem _ (List.mem_cons_of_mem _ hx))⟩
theorem less_box {F : Nat × Obj} {b : Nat × Obj} (h : At w0 p (F :: b :: fs) s w) : At w0 p (F :: fs) s w := h.less (fun x hx => by
    rcases List.mem_cons.1 hx with rfl | hx
    · exact List.mem_cons_self
    · exact List.mem_cons_of_mem _ (List.mem_cons_of_mem _ hx))
/-- Delete where old fails. -/
theorem delete_bad (h : At w0 p ((pf, fileO p nm rel size mode nxt last) :: fs) s w) (hf : ∀ x ∈ fs, x.1 ≠ pf) (ht : J.Two s) (k : Int) (st : J.B) (hst : st ≠ [48, 48])
    (hold : ∀ gs w1, At w0 p ((pf, fileO p nm rel size mode nxt last) :: gs) s w1 → (∀ x ∈ gs, x.1 ≠ pf) → Calls Tryz.prog 46 #[.pointer (some ⟨pf, 0, none⟩), .int .i64 k, .func (.func 64) #[] #[]] w1 fun e w' => e = .returned (.tuple #[.int .i64 0, .string ⟨st.toArray⟩]) ∧ At w0 p ((pf, fileO p nm rel size mode nxt 0) :: gs) s w')
    (hs : chk [52, 57] true 3 3 rel mode = [48, 48]) :
    Calls Tryz.prog 28 #[.pointer (some ⟨pf, 0, none⟩), .int .i64 k] w fun e w' => e = .returned (.string ⟨st.toArray⟩) ∧ At w0 p ((pf, fileO p nm rel size mode nxt 0) :: fs) s w' := by
  obtain ⟨hB, hf2⟩ := h.boxF hf
  have hck := fcheck_any (wrong := [52, 57]) (need := true) (a := 3) (b := 3) (hB.get List.mem_cons_self)
  rw [hs] at hck
  have HCK := Lib.hid hck
  have HOL := Lib.hid (hold _ _ hB hf2)
  have HT := Lib.hid ht
  have HF2 := Lib.hid hf2
  have hne := chk_ne hst
  generalize (⟨st.toArray⟩ : ByteArray) = sb at HOL hne ⊢
  clear h hf hB hck hold hs hst ht hf2
  go_enter Tryz.func28, Tryz.ntmps28
  go_wp2_with fail
  refine HCK.out.mono ?_
  rintro e w1 ⟨rfl, hw⟩
  clear HCK
  subst hw
  go_wp2_with fail
  refine HOL.out.mono ?_
  rintro e w2 ⟨rfl, h2⟩
  have H3 := Lib.hid (h2.boxN HF2.out (.int .i64 0)).1
  clear h2 HOL
  go_wp2
  go_ret
  exact ⟨rfl, less_box (less_box H3.out)⟩
theorem delete_ok (h : At w0 p ((pf, fileO p nm rel size mode nxt last) :: fs) s w) (hf : ∀ x ∈ fs, x.1 ≠ pf) (ht : J.Two s) (ho : s.opn = false) (k : Int) (n : Nat) (h1 : 1 ≤ n) (h2 : n ≤ 65536) (hk : k = n ∨ k = 0 ∧ last = n) (hnm : nm.length ≤ 100) (v0 : J.B) (hlk : J.look s.now (R.key nm n) = some v0) (hv0 : v0.length ≤ 90000000)
    (hr : J.delete (J.begin_ s) (R.key nm n) = (s1, 0))
    (hcm : ∀ gs w1, At w0 p gs s1 w1 → ∃ k : Int, Calls Tryz.prog 70 #[.pointer (some ⟨p, 0, none⟩)] w1 fun e w' => e = .returned (.tuple #[.int .i64 k, .int .i64 0]) ∧ At w0 p gs s2 w')
    (hs : chk [52, 57] true 3 3 rel mode = [48, 48]) :
    Calls Tryz.prog 28 #[.pointer (some ⟨pf, 0, none⟩), .int .i64 k] w fun e w' => e = .returned (.string ⟨#[48, 48]⟩) ∧ At w0 p ((pf, fileO p nm rel size mode nxt 0) :: fs) s2 w' := by
  obtain ⟨hB, hf2⟩ := h.boxF hf
  have hck := fcheck_any (wrong := [52, 57]) (need := true) (a := 3) (b := 3) (hB.get List.mem_cons_self)
  rw [hs] at hck
  have HCK := Lib.hid hck
  have hol := old_in hB hf2 ht k n h1 h2 hk hnm (fun l e => by rw [hlk] at e; injection e with e; subst e; exact hv0) 64 #[] (fun v w => enters_of Tryz.func64 (by kernel_rfl) rfl _ w) true (fun v w1 _ _ => delete1_any v w1)
  rw [hlk] at hol
  have HOL := Lib.hid hol
  have HT := Lib.hid ht
  have HF2 := Lib.hid hf2
  have HUP := Lib.hid (fun w2 (ha : At w0 p ((pf, fileO p nm rel size mode nxt 0) :: (w.heap.size, boxF pf) :: fs) s w2) =>
    delete_upd (ha.boxN hf2 (.int .i64 (n : Nat))).1 List.mem_cons_self ho w.heap.size w2.heap.size n (List.mem_cons_of_mem _ (List.mem_cons_of_mem _ List.mem_cons_self)) (List.mem_cons_of_mem _ List.mem_cons_self) (by omega) hnm hr hcm)
  clear h hf hB hck hol hs ht hf2 hr hcm hlk hv0 ho
  go_enter Tryz.func28, Tryz.ntmps28
  go_wp2_with fail
  refine HCK.out.mono ?_
  rintro e w1 ⟨rfl, hw⟩
  clear HCK
  subst hw
  go_wp2_with fail
  refine HOL.out.mono ?_
  rintro e w2 ⟨rfl, h2⟩
  have hbx := fun j => cell_of_row w2 w.heap.size j _ _ _ (h2.get (List.mem_cons_of_mem _ List.mem_cons_self))
  have HUW := Lib.hid (HUP.out w2 h2)
  have hlt := (Array.getElem?_eq_some_iff.1 (h2.get (List.mem_cons_of_mem _ List.mem_cons_self))).1
  clear h2 HOL HUP HF2 HT
  go_wp2_with fail
  refine HUW.out.mono ?_
  rintro e w3 ⟨rfl, h3⟩
  have H3 := Lib.hid h3
  clear h3 HUW hbx
  go_wp2
  go_ret
  exact ⟨rfl, less_box (less_box H3.out)⟩
end
end Go.Proofs.YtjbepnkchoaipaaGreat
/- Law 31: Rewrite. -/
namespace Go.Proofs.YtjbepnkchoaipaaGreat
open Go.RowKit Go.Lib Go.Maps Go.WideMaps Go.Sort
set_option maxRecDepth 100000
section
variable {w0 : World} {p pf : Nat} {nm : J.B} {rel : Bool} {size mode nxt last : Nat} {w : World} {s s1 s2 : J.St} {fs : List (Nat × Obj)}
theorem dec_ne (k : Int) : decide (k ≠ 0) = (k != 0) := by
  by_cases h : k = 0
  · subst h; rfl
  · rw [decide_eq_true h]; exact (bne_iff_ne.2 h).symm
/-- The two boxes of Rewrite. -/
theorem At.two (h : At w0 p ((pf, fileO p nm rel size mode nxt last) :: fs) s w) (hf : ∀ x ∈ fs, x.1 ≠ pf) (v : Value) :
    At w0 p ((pf, fileO p nm rel size mode nxt last) :: (w.heap.size + 1, Proofs.YtjbepnkchoaipaaGreat.boxB v) :: (w.heap.size, Proofs.YtjbepnkchoaipaaGreat.boxF pf) :: fs) s ((w.alloc (Proofs.YtjbepnkchoaipaaGreat.boxF pf)).alloc (Proofs.YtjbepnkchoaipaaGreat.boxB v)) ∧ ∀ x ∈ ((w.heap.size + 1, Proofs.YtjbepnkchoaipaaGreat.boxB v) :: (w.heap.size, Proofs.YtjbepnkchoaipaaGreat.boxF pf) :: fs), x.1 ≠ pf := by
  obtain ⟨h1, f1⟩ := h.boxF hf
  have := h1.boxB f1 v
  rw [World.size_alloc] at this
  exact this
theorem rewrite_shut (h : At w0 p ((pf, fileO p nm rel size mode nxt last) :: fs) s w) (hf : ∀ x ∈ fs, x.1 ≠ pf) (k : Int) (A : Option Addr) (l c : Nat) (hs : chk [52, 57] (decide (k ≠ 0)) 3 3 rel mode ≠ [48, 48]) :
    Calls Tryz.prog 14 #[.pointer (some ⟨pf, 0, none⟩), .int .i64 k, .slice A l c] w fun e w' => e = .returned (.string ⟨(chk [52, 57] (decide (k ≠ 0)) 3 3 rel mode).toArray⟩) ∧ At w0 p ((pf, fileO p nm rel size mode nxt last) :: fs) s w' := by
  obtain ⟨hB, _⟩ := h.two hf (.slice A l c)
  have HCK := Lib.hid (fcheck_any (wrong := [52, 57]) (need := decide (k ≠ 0)) (a := 3) (b := 3) (hB.get List.mem_cons_self))
  have HB := Lib.hid hB
  have hne := chk_ne hs
  generalize (⟨(chk [52, 57] (decide (k ≠ 0)) 3 3 rel mode).toArray⟩ : ByteArray) = st at HCK hne ⊢
  clear hs h hB hf
  rw [dec_ne] at HCK
  go_enter Tryz.func14, Tryz.ntmps14
  go_wp2_with fail
  refine HCK.out.mono ?_
  rintro e w1 ⟨rfl, hw⟩
  clear HCK
  subst hw
  go_wp2
  go_ret
  exact ⟨rfl, less_box (less_box HB.out)⟩
/-- Rewrite where old fails. -/
theorem rewrite_bad (h : At w0 p ((pf, fileO p nm rel size mode nxt last) :: fs) s w) (hf : ∀ x ∈ fs, x.1 ≠ pf) (k : Int) (A : Option Addr) (l c : Nat) (st : J.B) (hst : st ≠ [48, 48])
    (hold : ∀ Bf Bb gs w1, At w0 p ((pf, fileO p nm rel size mode nxt last) :: (Bb, boxB (.slice A l c)) :: (Bf, boxF pf) :: gs) s w1 → (∀ x ∈ ((Bb, boxB (.slice A l c)) :: (Bf, boxF pf) :: gs), x.1 ≠ pf) → Calls Tryz.prog 46 #[.pointer (some ⟨pf, 0, none⟩), .int .i64 k, .func (.func 47) #[] #[.pointer (some ⟨Bf, 0, none⟩), .pointer (some ⟨Bb, 0, none⟩)]] w1 fun e w' => e = .returned (.tuple #[.int .i64 0, .string ⟨st.toArray⟩]) ∧ At w0 p ((pf, fileO p nm rel size mode nxt 0) :: (Bb, boxB (.slice A l c)) :: (Bf, boxF pf) :: gs) s w')
    (hs : chk [52, 57] (decide (k ≠ 0)) 3 3 rel mode = [48, 48]) :
    Calls Tryz.prog 14 #[.pointer (some ⟨pf, 0, none⟩), .int .i64 k, .slice A l c] w fun e w' => e = .returned (.string ⟨st.toArray⟩) ∧ At w0 p ((pf, fileO p nm rel size mode nxt 0) :: fs) s w' := by
  obtain ⟨hB, hf2⟩ := h.two hf (.slice A l c)
  have hck := fcheck_any (wrong := [52, 57]) (need := decide (k ≠ 0)) (a := 3) (b := 3) (hB.get List.mem_cons_self)
  rw [hs] at hck
  have HCK := Lib.hid hck
  have HOL := Lib.hid (hold _ _ _ _ hB hf2)
  have hne := chk_ne hst
  generalize (⟨st.toArray⟩ : ByteArray) = sb at HOL hne ⊢
  clear h hf hB hck hold hs hst hf2
  rw [dec_ne] at HCK
  go_enter Tryz.func14, Tryz.ntmps14
  go_wp2_with fail
  refine HCK.out.mono ?_
  rintro e w1 ⟨rfl, hw⟩
  clear HCK
  subst hw
  go_wp2_with fail
  refine HOL.out.mono ?_
  rintro e w2 ⟨rfl, h2⟩
  have H3 := Lib.hid h2
  clear h2 HOL
  go_wp2
  go_ret
  exact ⟨rfl, less_box (less_box H3.out)⟩
theorem rewrite_ok (h : At w0 p ((pf, fileO p nm rel size mode nxt last) :: fs) s w) (hf : ∀ x ∈ fs, x.1 ≠ pf) (ht : J.Two s) (ho : s.opn = false) (k : Int) (n : Nat) (A : Option Addr) (l c : Nat) (val : J.B) (h1 : 1 ≤ n) (h2 : n ≤ 65536) (hk : k = n ∨ k = 0 ∧ last = n) (hnm : nm.length ≤ 100) (v0 : J.B) (hlk : J.look s.now (R.key nm n) = some v0) (hv0 : v0.length ≤ 90000000)
    (hl : 0 < l ∧ l ≤ size) (hrl : rel = true ∨ v0.length = l)
    (hv : ∀ gs t w1, (∀ x ∈ fs, x ∈ gs) → At w0 p gs t w1 → Sl w1 NoM (.slice A l c) val) (hvl : val.length ≤ 8192) (hr : J.add (J.begin_ s) ⟨R.key nm n, val, false⟩ = (s1, 0))
    (hcm : ∀ gs w1, At w0 p gs s1 w1 → ∃ k : Int, Calls Tryz.prog 70 #[.pointer (some ⟨p, 0, none⟩)] w1 fun e w' => e = .returned (.tuple #[.int .i64 k, .int .i64 0]) ∧ At w0 p gs s2 w')
    (hs : chk [52, 57] (decide (k ≠ 0)) 3 3 rel mode = [48, 48]) :
    Calls Tryz.prog 14 #[.pointer (some ⟨pf, 0, none⟩), .int .i64 k, .slice A l c] w fun e w' => e = .returned (.string ⟨#[48, 48]⟩) ∧ At w0 p ((pf, fileO p nm rel size mode nxt 0) :: fs) s2 w' := by
  obtain ⟨hB, hf2⟩ := h.two hf (.slice A l c)
  have hck := fcheck_any (wrong := [52, 57]) (need := decide (k ≠ 0)) (a := 3) (b := 3) (hB.get List.mem_cons_self)
  rw [hs] at hck
  have HCK := Lib.hid hck
  have hol := old_in hB hf2 ht k n h1 h2 hk hnm (fun l e => by rw [hlk] at e; injection e with e; subst e; exact hv0) 47 #[.pointer (some ⟨w.heap.size, 0, none⟩), .pointer (some ⟨w.heap.size + 1, 0, none⟩)] (fun v w => enters_of Tryz.func47 (by kernel_rfl) rfl _ w) true
    (fun v w1 ha hsl => by
      obtain ⟨Av, cv, rfl, _⟩ := hsl.by
      have := rewrite1_any (ha.get List.mem_cons_self) w.heap.size (w.heap.size + 1) A Av l c ((J.look s.now (R.key nm n)).getD []).length cv (by rw [cell_of_row w1 _ 0 _ _ _ (ha.get (List.mem_cons_of_mem _ (List.mem_cons_of_mem _ List.mem_cons_self)))]; rfl) (by rw [cell_of_row w1 _ 0 _ _ _ (ha.get (List.mem_cons_of_mem _ List.mem_cons_self))]; rfl)
      rw [decide_eq_true hl] at this
      have e0 : (J.look s.now (R.key nm n)).getD [] = v0 := by rw [hlk]; rfl
      rw [e0] at this ⊢
      have e : (rel || decide (v0.length = l)) = true := by
        rcases hrl with rfl | e
        · rfl
        · simp [e]
      rw [e] at this
      exact this)
  rw [hlk] at hol
  have HOL := Lib.hid hol
  have HPU := Lib.hid (fun w2 (ha : At w0 p ((pf, fileO p nm rel size mode nxt 0) :: (w.heap.size + 1, boxB (.slice A l c)) :: (w.heap.size, boxF pf) :: fs) s w2) =>
    fput_any ha List.mem_cons_self ho n A l c val (by omega) hnm (fun gs t w1 hg => hv gs t w1 (fun x hx => hg x (List.mem_cons_of_mem _ (List.mem_cons_of_mem _ (List.mem_cons_of_mem _ hx))))) hvl hr hcm)
  clear h hf hB hck hol hs ht hf2 hr hcm hlk hv0 ho hv hl hrl
  rw [dec_ne] at HCK
  clear hk
  go_enter Tryz.func14, Tryz.ntmps14
  go_wp2_with fail
  refine HCK.out.mono ?_
  rintro e w1 ⟨rfl, hw⟩
  clear HCK
  subst hw
  go_wp2_with fail
  refine HOL.out.mono ?_
  rintro e w2 ⟨rfl, h2⟩
  have hbx := fun j => cell_of_row w2 w.heap.size j _ _ _ (h2.get (List.mem_cons_of_mem _ (List.mem_cons_of_mem _ List.mem_cons_self)))
  have hby := fun j => cell_of_row w2 (w.heap.size + 1) j _ _ _ (h2.get (List.mem_cons_of_mem _ List.mem_cons_self))
  have HUW := Lib.hid (HPU.out w2 h2)
  clear h2 HOL HPU
  go_wp2_with fail
  refine HUW.out.mono ?_
  rintro e w3 ⟨rfl, h3⟩
  have H3 := Lib.hid h3
  clear h3 HUW hbx hby
  go_wp2
  go_ret
  exact ⟨rfl, less_box (less_box H3.out)⟩
end
end Go.Proofs.YtjbepnkchoaipaaGreat
