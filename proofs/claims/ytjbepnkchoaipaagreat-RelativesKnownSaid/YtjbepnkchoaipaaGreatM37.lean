import Derived.Test.YtjbepnkchoaipaaGreatM36
import Derived.Test.YtjbepnkchoaipaaGreatM34
set_option linter.unusedVariables false
set_option linter.unusedSimpArgs false
/- Law 31: Open. -/
namespace Go.Proofs.YtjbepnkchoaipaaGreat
open Go.RowKit Go.Lib Go.Maps Go.WideMaps Go.Sort
set_option maxRecDepth 100000
section
variable {w0 : World} {p pf : Nat} {nm : J.B} {rel : Bool} {size mode nxt last u : Nat} {w : World} {s si s1 s2 : J.St} {old : List (J.B × J.B)} {fs : List (Nat × Obj)}
/-- A new string's block. -/
theorem At.boxS (h : At w0 p ((pf, fileO p nm rel size mode nxt last) :: fs) s w) (hf : ∀ x ∈ fs, x.1 ≠ pf) (b : ByteArray) : At w0 p ((pf, fileO p nm rel size mode nxt last) :: (w.heap.size, Proofs.YtjbepnkchoaipaaGreat.boxS b) :: fs) s (w.alloc (Proofs.YtjbepnkchoaipaaGreat.boxS b)) ∧ ∀ x ∈ ((w.heap.size, Proofs.YtjbepnkchoaipaaGreat.boxS b) :: fs), x.1 ≠ pf := by
  have hl := (Array.getElem?_eq_some_iff.1 (h.get List.mem_cons_self)).1
  refine ⟨(h.more (Proofs.YtjbepnkchoaipaaGreat.boxS b)).less (fun x hx => ?_), fun x hx => ?_⟩
  · rcases List.mem_cons.1 hx with rfl | hx
    · exact List.mem_cons_of_mem _ List.mem_cons_self
    · rcases List.mem_cons.1 hx with rfl | hx
      · exact List.mem_cons_self
      · exact List.mem_cons_of_mem _ (List.mem_cons_of_mem _ hx)
  · rcases List.mem_cons.1 hx with rfl | hx
    · show w.heap.size ≠ pf; omega
    · exact hf x hx
theorem open_mode (h : At w0 p ((pf, fileO p nm rel size mode nxt last) :: fs) s w) (hf : ∀ x ∈ fs, x.1 ≠ pf) (md : Nat) (hm : md < 1 ∨ 4 < md) :
    Calls Tryz.prog 10 #[.pointer (some ⟨pf, 0, none⟩), .int .u8 (md : Nat)] w fun e w' => e = .returned (.string ⟨#[51, 48]⟩) ∧ At w0 p ((pf, fileO p nm rel size mode nxt last) :: fs) s w' := by
  obtain ⟨hB, _⟩ := h.boxF hf
  have HR := Lib.hid (fready_any (hB.get List.mem_cons_self))
  have HB := Lib.hid hB
  clear h hB hf
  rcases hm with hm | hm
  · have m1 : (md : Int) < 1 := by omega
    go_enter Tryz.func10, Tryz.ntmps10
    go_wp2_with fail
    refine HR.out.mono ?_
    rintro e w1 ⟨rfl, hw⟩
    clear HR
    subst hw
    go_wp2
    go_ret
    exact ⟨rfl, less_box HB.out⟩
  · have m1 : ¬ (md : Int) < 1 := by omega
    have m2 : (4 : Int) < (md : Int) := by omega
    go_enter Tryz.func10, Tryz.ntmps10
    go_wp2_with fail
    refine HR.out.mono ?_
    rintro e w1 ⟨rfl, hw⟩
    clear HR
    subst hw
    go_wp2
    go_ret
    exact ⟨rfl, less_box HB.out⟩
theorem open_already (h : At w0 p ((pf, fileO p nm rel size mode nxt last) :: fs) s w) (hf : ∀ x ∈ fs, x.1 ≠ pf) (ho : s.opn = false) (md : Nat) (h1 : 1 ≤ md) (h2 : md ≤ 4) (hmd : mode ≠ 0) :
    Calls Tryz.prog 10 #[.pointer (some ⟨pf, 0, none⟩), .int .u8 (md : Nat)] w fun e w' => e = .returned (.string ⟨#[52, 49]⟩) ∧ At w0 p ((pf, fileO p nm rel size mode nxt last) :: fs) (J.abandon (J.begin_ s)) w' := by
  obtain ⟨hB, _⟩ := h.boxF hf
  have HR := Lib.hid (fready_any (hB.get List.mem_cons_self))
  have HI := Lib.hid (idle_any hB List.mem_cons_self ho)
  have m1 : ¬ (md : Int) < 1 := by omega
  have m2 : ¬ (4 : Int) < (md : Int) := by omega
  have m3 : ¬ (mode : Int) = 0 := by omega
  clear h hB hf
  go_enter Tryz.func10, Tryz.ntmps10
  go_wp2_with fail
  refine HR.out.mono ?_
  rintro e w1 ⟨rfl, hw⟩
  clear HR
  subst hw
  go_wp2_with fail
  refine HI.out.mono ?_
  rintro e w2 ⟨rfl, ha⟩
  have hc := fun j => cell_of_row w2 pf j _ _ _ (ha.get List.mem_cons_self)
  have hbx := fun j => cell_of_row w2 w.heap.size j _ _ _ (ha.get (List.mem_cons_of_mem _ List.mem_cons_self))
  have HA := Lib.hid ha
  clear HI ha
  go_wp2
  go_ret
  exact ⟨rfl, less_box HA.out⟩
-- GEN : what follows is printed by gen_open.py
theorem open_missing (h : At w0 p ((pf, fileO p nm rel size 0 nxt last) :: fs) s w) (hf : ∀ x ∈ fs, x.1 ≠ pf) (ho : s.opn = false) (ht : J.Two s) (md : Nat) (h1 : 1 ≤ md) (h2 : md ≤ 4) (hmd : md ≠ 2) (hnm : nm.length ≤ 3) (hlk : J.look s.now (R.own nm) = none) :
    Calls Tryz.prog 10 #[.pointer (some ⟨pf, 0, none⟩), .int .u8 (md : Nat)] w fun e w' => e = .returned (.string ⟨#[51, 53]⟩) ∧ At w0 p ((pf, fileO p nm rel size 0 nxt last) :: fs) (J.abandon (J.begin_ s)) w' := by
  obtain ⟨hB, hf2⟩ := h.boxF hf
  have HR := Lib.hid (fready_any (hB.get List.mem_cons_self))
  have HI := Lib.hid (idle_any hB List.mem_cons_self ho)
  have HF2 := Lib.hid hf2
  have m1 : ¬ (md : Int) < 1 := by omega
  have m2 : ¬ (4 : Int) < (md : Int) := by omega
  have m3 : ¬ (md : Int) = 2 := by omega
  have ht2 : J.Two (J.abandon (J.begin_ s)) := ⟨ht.wr, ht.h0, ht.h1⟩
  have HT2 := Lib.hid ht2
  have HLK := Lib.hid (show J.look (J.abandon (J.begin_ s)).now (R.own nm) = none from hlk)
  generalize J.abandon (J.begin_ s) = s' at HT2 HLK HI ht2 ⊢
  clear h hB hf hf2 ht ht2 hlk ho
  go_enter Tryz.func10, Tryz.ntmps10
  go_wp2_with fail
  refine HR.out.mono ?_
  rintro e w1 ⟨rfl, hw⟩
  clear HR
  subst hw
  go_wp2_with fail
  refine HI.out.mono ?_
  rintro e w2 ⟨rfl, ha⟩
  have hc := fun j => cell_of_row w2 pf j _ _ _ (ha.get List.mem_cons_self)
  have hbx := fun j => cell_of_row w2 w.heap.size j _ _ _ (ha.get (List.mem_cons_of_mem _ List.mem_cons_self))
  have hA2 := ha.boxS HF2.out ⟨(R.own nm).toArray⟩
  have HA2 := Lib.hid hA2.1
  have HF3 := Lib.hid hA2.2
  have HGE := Lib.hid (fun w3 (hb : Below (w2.alloc (boxS ⟨(R.own nm).toArray⟩)).heap.size (w2.alloc (boxS ⟨(R.own nm).toArray⟩)) w3) => at_get (hA2.1.below hb) (R.own nm) (by rw [R.own_len]; omega) (by rw [HLK.out]; intro l e; cases e))
  rw [HLK.out] at HGE
  have hs1 : ¬ 9223372036854775807 < nm.length + 2 := by omega
  have hs2 := own_str nm
  clear HI ha hA2
  go_upto_region 6 with fail
  clear hc hbx hs1 hs2
  refine wp_region_pm 10 (.rd 0 (.rd 1 (.rd 2 (.rd 3 (.rd 4 (.wr 5 (.rd 6 (.rd 7 (.rd 8 (.wr 9 .fin)))))))))) (fun w' => w'.heap[pf]? = some (fileO p nm rel size 0 nxt last) ∧ w'.heap[w.heap.size]? = some (boxF pf) ∧ w'.heap[w2.heap.size]? = some (boxS ⟨(R.own nm).toArray⟩)) (by kernel_rfl) (by kernel_rfl) (fun c a d v w h => by cases d <;> exact h) ⟨HA2.out.get List.mem_cons_self, HA2.out.get (List.mem_cons_of_mem _ (List.mem_cons_of_mem _ List.mem_cons_self)), HA2.out.get (List.mem_cons_of_mem _ List.mem_cons_self)⟩ ?_
  repeat
    refine wpPm_read (v := ?_) (by rfl) (by rfl) (fun w' hS => ?_) (fun K hK => ?_)
    rotate_left
    · have hc := fun j => cell_of_row w' pf j _ _ _ hS.1
      have hcb := fun j => cell_of_row w' w.heap.size j _ _ _ hS.2.1
      have hco := fun j => cell_of_row w' w2.heap.size j _ _ _ hS.2.2
      clear hS
      go_simp
      try with_reducible rfl
    go_simp
    refine hK _ ?_
    clear hK K
  refine wpPm_write (by rfl) (fun K hK => ?_)
  go_simp
  refine (HGE.out _ ((Below.refl _ _).drew)).mono ?_
  rintro e w3 ⟨v, rfl, hv, ha3, _⟩
  refine hK.out _ _ (fun w' => w'.heap[pf]? = some (fileO p nm rel size 0 nxt last) ∧ w'.heap[w.heap.size]? = some (boxF pf) ∧ w'.heap[w2.heap.size]? = some (boxS ⟨(R.own nm).toArray⟩)) (fun _ h => h) ⟨ha3.get List.mem_cons_self, ha3.get (List.mem_cons_of_mem _ (List.mem_cons_of_mem _ List.mem_cons_self)), ha3.get (List.mem_cons_of_mem _ List.mem_cons_self)⟩ ?_
  clear hK K
  repeat
    refine wpPm_read (v := ?_) (by rfl) (by rfl) (fun w' hS => ?_) (fun K hK => ?_)
    rotate_left
    · skip
      clear hS
      go_simp
      try with_reducible rfl
    go_simp
    refine hK _ ?_
    clear hK K
  refine wpPm_write (by rfl) (fun K hK => ?_)
  go_simp
  refine hK.out _ _ (fun w' => w'.heap[pf]? = some (fileO p nm rel size 0 nxt last) ∧ w'.heap[w.heap.size]? = some (boxF pf) ∧ w'.heap[w2.heap.size]? = some (boxS ⟨(R.own nm).toArray⟩)) (fun _ h => h) ⟨ha3.get List.mem_cons_self, ha3.get (List.mem_cons_of_mem _ (List.mem_cons_of_mem _ List.mem_cons_self)), ha3.get (List.mem_cons_of_mem _ List.mem_cons_self)⟩ ?_
  clear hK K
  have H3 := Lib.hid ha3
  have HV := Lib.hid hv
  clear ha3 hv HGE HA2
  show wpList _ _ _ _ _ _
  clear HF2 HV
  go_wp2
  go_ret
  exact ⟨rfl, less_box (less_box H3.out)⟩
theorem attr_head (rel : Bool) (size : Nat) : ((R.attr rel size).headD 0).toNat ≤ 1 := by
  cases rel
  · exact Nat.zero_le 1
  · exact Nat.le_refl 1
theorem file_open (h : At w0 p ((pf, fileO p nm rel size mode nxt last) :: fs) s w) (hf : ∀ x ∈ fs, x.1 ≠ pf) (ht : J.Two s) (md : Nat) :
    At w0 p ((pf, fileO p nm rel size md 1 0) :: fs) s (((w.setCell ⟨pf, 4, none⟩ (.int .u8 (md : Nat))).setCell ⟨pf, 5, none⟩ (.int .i64 1)).setCell ⟨pf, 6, none⟩ (.int .i64 0)).drew := by
  have h0 := h.get List.mem_cons_self
  have := h.turn hf ht (file_noBy h0) (grown_set (grown_set (grown_set (World.grownBy.refl w _) 4 (.int .u8 (md : Nat))) 5 (.int .i64 1)) 6 (.int .i64 0)) (blk_set (blk_set (blk_set h0 4 (.int .u8 (md : Nat))) 5 (.int .i64 1)) 6 (.int .i64 0))
  exact this.below ((Below.refl _ _).drew)
theorem open_there (h : At w0 p ((pf, fileO p nm rel size 0 nxt last) :: fs) s w) (hf : ∀ x ∈ fs, x.1 ≠ pf) (ho : s.opn = false) (ht : J.Two s) (md : Nat) (h1 : 1 ≤ md) (h2 : md ≤ 4) (hmd : md ≠ 2) (hnm : nm.length ≤ 3) (hsz : size < 4294967296) (hlk : J.look s.now (R.own nm) = some (R.attr rel size)) :
    Calls Tryz.prog 10 #[.pointer (some ⟨pf, 0, none⟩), .int .u8 (md : Nat)] w fun e w' => e = .returned (.string ⟨#[48, 48]⟩) ∧ At w0 p ((pf, fileO p nm rel size md 1 0) :: fs) (J.abandon (J.begin_ s)) w' := by
  obtain ⟨hB, hf2⟩ := h.boxF hf
  have HR := Lib.hid (fready_any (hB.get List.mem_cons_self))
  have HI := Lib.hid (idle_any hB List.mem_cons_self ho)
  have HF2 := Lib.hid hf2
  have m1 : ¬ (md : Int) < 1 := by omega
  have m2 : ¬ (4 : Int) < (md : Int) := by omega
  have m3 : ¬ (md : Int) = 2 := by omega
  have ht2 : J.Two (J.abandon (J.begin_ s)) := ⟨ht.wr, ht.h0, ht.h1⟩
  have HT2 := Lib.hid ht2
  have HLK := Lib.hid (show J.look (J.abandon (J.begin_ s)).now (R.own nm) = some (R.attr rel size) from hlk)
  generalize J.abandon (J.begin_ s) = s' at HT2 HLK HI ht2 ⊢
  clear h hB hf hf2 ht ht2 hlk ho
  go_enter Tryz.func10, Tryz.ntmps10
  go_wp2_with fail
  refine HR.out.mono ?_
  rintro e w1 ⟨rfl, hw⟩
  clear HR
  subst hw
  go_wp2_with fail
  refine HI.out.mono ?_
  rintro e w2 ⟨rfl, ha⟩
  have hc := fun j => cell_of_row w2 pf j _ _ _ (ha.get List.mem_cons_self)
  have hbx := fun j => cell_of_row w2 w.heap.size j _ _ _ (ha.get (List.mem_cons_of_mem _ List.mem_cons_self))
  have hA2 := ha.boxS HF2.out ⟨(R.own nm).toArray⟩
  have HA2 := Lib.hid hA2.1
  have HF3 := Lib.hid hA2.2
  have HGE := Lib.hid (fun w3 (hb : Below (w2.alloc (boxS ⟨(R.own nm).toArray⟩)).heap.size (w2.alloc (boxS ⟨(R.own nm).toArray⟩)) w3) => at_get (hA2.1.below hb) (R.own nm) (by rw [R.own_len]; omega) (by rw [HLK.out]; intro l e; injection e with e; subst e; show 5 ≤ 90000000; decide))
  rw [HLK.out] at HGE
  have hs1 : ¬ 9223372036854775807 < nm.length + 2 := by omega
  have hs2 := own_str nm
  clear HI ha hA2
  go_upto_region 6 with fail
  clear hc hbx hs1 hs2
  refine wp_region_pm 10 (.rd 0 (.rd 1 (.rd 2 (.rd 3 (.rd 4 (.wr 5 (.rd 6 (.rd 7 (.rd 8 (.wr 9 .fin)))))))))) (fun w' => w'.heap[pf]? = some (fileO p nm rel size 0 nxt last) ∧ w'.heap[w.heap.size]? = some (boxF pf) ∧ w'.heap[w2.heap.size]? = some (boxS ⟨(R.own nm).toArray⟩)) (by kernel_rfl) (by kernel_rfl) (fun c a d v w h => by cases d <;> exact h) ⟨HA2.out.get List.mem_cons_self, HA2.out.get (List.mem_cons_of_mem _ (List.mem_cons_of_mem _ List.mem_cons_self)), HA2.out.get (List.mem_cons_of_mem _ List.mem_cons_self)⟩ ?_
  repeat
    refine wpPm_read (v := ?_) (by rfl) (by rfl) (fun w' hS => ?_) (fun K hK => ?_)
    rotate_left
    · have hc := fun j => cell_of_row w' pf j _ _ _ hS.1
      have hcb := fun j => cell_of_row w' w.heap.size j _ _ _ hS.2.1
      have hco := fun j => cell_of_row w' w2.heap.size j _ _ _ hS.2.2
      clear hS
      go_simp
      try with_reducible rfl
    go_simp
    refine hK _ ?_
    clear hK K
  refine wpPm_write (by rfl) (fun K hK => ?_)
  go_simp
  refine (HGE.out _ ((Below.refl _ _).drew)).mono ?_
  rintro e w3 ⟨v, rfl, hv, ha3, _⟩
  refine hK.out _ _ (fun w' => w'.heap[pf]? = some (fileO p nm rel size 0 nxt last) ∧ w'.heap[w.heap.size]? = some (boxF pf) ∧ w'.heap[w2.heap.size]? = some (boxS ⟨(R.own nm).toArray⟩)) (fun _ h => h) ⟨ha3.get List.mem_cons_self, ha3.get (List.mem_cons_of_mem _ (List.mem_cons_of_mem _ List.mem_cons_self)), ha3.get (List.mem_cons_of_mem _ List.mem_cons_self)⟩ ?_
  clear hK K
  repeat
    refine wpPm_read (v := ?_) (by rfl) (by rfl) (fun w' hS => ?_) (fun K hK => ?_)
    rotate_left
    · skip
      clear hS
      go_simp
      try with_reducible rfl
    go_simp
    refine hK _ ?_
    clear hK K
  refine wpPm_write (by rfl) (fun K hK => ?_)
  go_simp
  refine hK.out _ _ (fun w' => w'.heap[pf]? = some (fileO p nm rel size 0 nxt last) ∧ w'.heap[w.heap.size]? = some (boxF pf) ∧ w'.heap[w2.heap.size]? = some (boxS ⟨(R.own nm).toArray⟩)) (fun _ h => h) ⟨ha3.get List.mem_cons_self, ha3.get (List.mem_cons_of_mem _ (List.mem_cons_of_mem _ List.mem_cons_self)), ha3.get (List.mem_cons_of_mem _ List.mem_cons_self)⟩ ?_
  clear hK K
  have H3 := Lib.hid ha3
  have HV := Lib.hid hv
  clear ha3 hv HGE HA2
  show wpList _ _ _ _ _ _
  have hv0 : Slc w3 _ v (R.attr rel size) := HV.out
  obtain ⟨A, c, rfl, _, hby⟩ := hv0.sl.by
  have hml := malformed_any _ (R.attr rel size) _ (w := w3) hv0.sl rfl (attr_head rel size)
  have HBY := Lib.hid hby
  clear hby HV hv0
  have HML := Lib.hid hml
  have HAT := Lib.hid (attributes_any nm rel size w3 hsz)
  have hc := fun j => cell_of_row w3 pf j _ _ _ (H3.out.get List.mem_cons_self)
  have hbx := fun j => cell_of_row w3 w.heap.size j _ _ _ (H3.out.get (List.mem_cons_of_mem _ (List.mem_cons_of_mem _ List.mem_cons_self)))
  clear hml
  go_wp2_with fail
  refine HML.out.mono ?_
  rintro e w4 ⟨rfl, hw⟩
  subst hw
  clear HML
  go_wp2_with fail
  refine HAT.out.mono ?_
  rintro e w4 ⟨v4, rfl, hv4, hb4⟩
  obtain ⟨A4, c4, rfl, _, hby4⟩ := (own_slN hv4).by
  have hbe := bytesEqual_any A A4 _ _ c c4 _ _ w4 _ _ (HBY.out.step (Step.of_below hb4)) hby4
  rw [beq_self_eq_true] at hbe
  have HBE := Lib.hid hbe
  have h4 := H3.out.below hb4
  have H4 := Lib.hid h4
  clear hbe hv4 hb4 hby4 HAT HBY H3 hc hbx h4
  go_wp2_with fail
  refine HBE.out.mono ?_
  rintro e w5 ⟨rfl, hw⟩
  subst hw
  clear HBE
  have hrow := H4.out.get List.mem_cons_self
  have HRW := Lib.hid hrow
  have HBW := Lib.hid (show Boxed w4 w.heap.size _ _ from H4.out.get (List.mem_cons_of_mem _ (List.mem_cons_of_mem _ List.mem_cons_self)))
  have hbx := fun j => cell_of_row w4 w.heap.size j _ _ _ (H4.out.get (List.mem_cons_of_mem _ (List.mem_cons_of_mem _ List.mem_cons_self)))
  have HNE := Lib.hid (HF3.out _ (List.mem_cons_of_mem _ List.mem_cons_self))
  have HEND := Lib.hid (less_box (less_box (file_open H4.out HF3.out HT2.out md)))
  go_upto_region 17 with fail
  refine wp_region_pm 10 (.rd 0 (.rd 1 (.rd 2 (.rd 3 (.rd 4 (.rd 5 (.wr 6 (.rd 7 (.rd 8 (.wr 9 .fin)))))))))) (fun w' => w'.cell? ⟨w.heap.size, 0, none⟩ = some (.pointer (some ⟨pf, 0, none⟩))) (by kernel_rfl) (by kernel_rfl) (fun c a d v w h => by cases d <;> exact h) (hbx 0) ?_
  repeat
    refine wpPm_read (v := ?_) (by rfl) (by rfl) (fun w' hS => ?_) (fun K hK => ?_)
    rotate_left
    · have hcb := hS
      clear hS
      go_simp
      try with_reducible rfl
    go_simp
    refine hK _ ?_
    clear hK K
  have hc := fun j => cell_of_row w4 pf j _ _ _ HRW.out
  have hz := frozen_row HRW.out
  refine wpPm_write (by rfl) (fun K hK => ?_)
  go_simp
  refine hK.out _ _ (fun w' => w'.cell? ⟨w.heap.size, 0, none⟩ = some (.pointer (some ⟨pf, 0, none⟩))) (fun _ h => h) (boxed_any HBW.out HNE.out 4 _).cell ?_
  clear hK K
  repeat
    refine wpPm_read (v := ?_) (by rfl) (by rfl) (fun w' hS => ?_) (fun K hK => ?_)
    rotate_left
    · have hcb := hS
      clear hS
      go_simp
      try with_reducible rfl
    go_simp
    refine hK _ ?_
    clear hK K
  refine wpPm_write (by rfl) (fun K hK => ?_)
  go_simp
  refine hK.out _ _ (fun w' => w'.cell? ⟨w.heap.size, 0, none⟩ = some (.pointer (some ⟨pf, 0, none⟩))) (fun _ h => h) (boxed_any (boxed_any HBW.out HNE.out 4 _) HNE.out 5 _).cell ?_
  clear hK K
  show wpList _ _ _ _ _ _
  go_wp2
  go_ret
  exact ⟨rfl, HEND.out⟩
theorem open_inv (hs : R.Sto u old s) (hkl : ∀ k ∈ s.now.map (·.1), k.length ≤ 9) (hm : s.now.length ≤ 1000) : ∀ k, k ≤ s.now.length → J.Inv True (R.opened s (R.dels ((s.now.map (·.1)).take k)) (s.now.drop k))
  | 0, _ => R.inv_opened hs
  | k + 1, hk => by
    have ih := open_inv hs hkl hm k (by omega)
    have hk' : k < s.now.length := by omega
    have hd : s.now.drop k = s.now[k] :: s.now.drop (k + 1) := List.drop_eq_getElem_cons hk'
    have hkm : k < (s.now.map (·.1)).length := by rw [List.length_map]; exact hk'
    have hkk : (s.now.map (·.1))[k] = (s.now[k]).1 := List.getElem_map _
    have ht : (s.now.map (·.1)).take (k + 1) = (s.now.map (·.1)).take k ++ [(s.now[k]).1] := by rw [List.take_succ_eq_append_getElem hkm, hkk]
    have hlen := dels_small (ks := (s.now.map (·.1)).take k) (fun x hx => hkl x (take_map_mem hx))
    have hll : ((s.now.map (·.1)).take k).length ≤ 1000 := by rw [List.length_take, List.length_map]; omega
    rw [hd] at ih
    rw [ht]
    exact (R.open_step hs _ (s.now.drop (k + 1)) s.now[k] ih (by omega)).2
theorem open_tx (hs : R.Sto u old s) (hu : u ≤ 340) (hkl : ∀ k ∈ s.now.map (·.1), k.length ≤ 9) (hnm : nm.length ≤ 3) (a : J.B) (hal : a.length = 5) :
    R.Tx u s (R.opened s (R.dels (s.now.map (·.1)) ++ [⟨R.own nm, a, false⟩]) [(R.own nm, a)]) [(R.own nm, a)] := by
  have hm := hs.many
  have hi := open_inv hs hkl (by omega) _ (Nat.le_refl _)
  rw [show (s.now.map (·.1)).take s.now.length = s.now.map (·.1) from List.take_of_length_le (by rw [List.length_map]; exact Nat.le_refl _), List.drop_length] at hi
  have hlen := dels_small (ks := s.now.map (·.1)) hkl
  have hl2 : (s.now.map (·.1)).length ≤ 341 := by rw [List.length_map]; omega
  exact (R.open_last hs hu (s.now.map (·.1)) (R.own nm) a hi (R.own_ne nm) (by rw [R.own_len]; omega) (by omega) (by rw [R.own_len]; omega)).2
theorem open_update (hs : R.Sto u old s) (hu : u ≤ 340) (Bf Bo : Nat) (h : At w0 p ((pf, fileO p nm rel size mode nxt last) :: (Bo, boxS ⟨(R.own nm).toArray⟩) :: (Bf, boxF pf) :: fs) s w) (hnm : nm.length ≤ 3) (hsz : size < 4294967296) (hk : keysOf s.now ⟨(nm ++ [0]).toArray⟩ = s.now.map (·.1)) (hkl : ∀ k ∈ s.now.map (·.1), k.length ≤ 9) :
    Calls Tryz.prog 36 #[.pointer (some ⟨pf, 0, none⟩), .func (.func 37) #[] #[.pointer (some ⟨Bf, 0, none⟩), .pointer (some ⟨Bo, 0, none⟩)]] w fun e w' => e = .returned (.string ⟨#[48, 48]⟩) ∧ At w0 p ((pf, fileO p nm rel size mode nxt last) :: (Bo, boxS ⟨(R.own nm).toArray⟩) :: (Bf, boxF pf) :: fs) (J.committed (R.opened s (R.dels (s.now.map (·.1)) ++ [⟨R.own nm, R.attr rel size, false⟩]) [(R.own nm, R.attr rel size)])) w' := by
  have ht := open_tx hs hu hkl hnm (R.attr rel size) rfl
  exact update_any h List.mem_cons_self hs.opn 37 #[.pointer (some ⟨Bf, 0, none⟩), .pointer (some ⟨Bo, 0, none⟩)]
    (fun w => enters_of Tryz.func37 (by kernel_rfl) rfl _ w)
    (fun w1 h1 => open1_any hs hu h1 List.mem_cons_self Bf Bo (List.mem_cons_of_mem _ (List.mem_cons_of_mem _ List.mem_cons_self)) (List.mem_cons_of_mem _ List.mem_cons_self) hnm hsz hk hkl)
    (fun w1 h1 => ⟨_, at_commit h1 ht.opn ht.sp ht.cs ht.cm ht.ar ht.fit _ _ ht.com⟩)
theorem open_new0 (h : At w0 p ((pf, fileO p nm rel size 0 nxt last) :: fs) s w) (hf : ∀ x ∈ fs, x.1 ≠ pf) (ho : s.opn = false) (ht : J.Two s) (hu : u ≤ 340) (hs : R.Sto u old (J.abandon (J.begin_ s))) (hsz : size < 4294967296) (hk : keysOf (J.abandon (J.begin_ s)).now ⟨(nm ++ [0]).toArray⟩ = (J.abandon (J.begin_ s)).now.map (·.1)) (hkl : ∀ k ∈ (J.abandon (J.begin_ s)).now.map (·.1), k.length ≤ 9) (hnm : nm.length ≤ 3) (hlk : J.look s.now (R.own nm) = none) :
    Calls Tryz.prog 10 #[.pointer (some ⟨pf, 0, none⟩), .int .u8 2] w fun e w' => e = .returned (.string ⟨#[48, 48]⟩) ∧ At w0 p ((pf, fileO p nm rel size 2 1 0) :: fs) (J.committed (R.opened (J.abandon (J.begin_ s)) (R.dels ((J.abandon (J.begin_ s)).now.map (·.1)) ++ [⟨R.own nm, R.attr rel size, false⟩]) [(R.own nm, R.attr rel size)])) w' := by
  obtain ⟨hB, hf2⟩ := h.boxF hf
  have HR := Lib.hid (fready_any (hB.get List.mem_cons_self))
  have HI := Lib.hid (idle_any hB List.mem_cons_self ho)
  have HF2 := Lib.hid hf2
  have ht2 : J.Two (J.abandon (J.begin_ s)) := ⟨ht.wr, ht.h0, ht.h1⟩
  have HT2 := Lib.hid ht2
  have HLK := Lib.hid (show J.look (J.abandon (J.begin_ s)).now (R.own nm) = none from hlk)
  generalize J.abandon (J.begin_ s) = s' at HT2 HLK HI ht2 hs hk hkl ⊢
  have HUP := Lib.hid (fun Bf Bo W (h : At w0 p ((pf, fileO p nm rel size 0 nxt last) :: (Bo, boxS ⟨(R.own nm).toArray⟩) :: (Bf, boxF pf) :: fs) s' W) => open_update hs hu Bf Bo h hnm hsz hk hkl)
  have HTX := Lib.hid (open_tx hs hu hkl hnm (R.attr rel size) rfl)
  clear h hB hf hf2 ht ht2 hlk ho hs hk hkl
  go_enter Tryz.func10, Tryz.ntmps10
  go_wp2_with fail
  refine HR.out.mono ?_
  rintro e w1 ⟨rfl, hw⟩
  clear HR
  subst hw
  go_wp2_with fail
  refine HI.out.mono ?_
  rintro e w2 ⟨rfl, ha⟩
  have hc := fun j => cell_of_row w2 pf j _ _ _ (ha.get List.mem_cons_self)
  have hbx := fun j => cell_of_row w2 w.heap.size j _ _ _ (ha.get (List.mem_cons_of_mem _ List.mem_cons_self))
  have hA2 := ha.boxS HF2.out ⟨(R.own nm).toArray⟩
  have HA2 := Lib.hid hA2.1
  have HF3 := Lib.hid hA2.2
  have HGE := Lib.hid (fun w3 (hb : Below (w2.alloc (boxS ⟨(R.own nm).toArray⟩)).heap.size (w2.alloc (boxS ⟨(R.own nm).toArray⟩)) w3) => at_get (hA2.1.below hb) (R.own nm) (by rw [R.own_len]; omega) (by rw [HLK.out]; intro l e; cases e))
  rw [HLK.out] at HGE
  have hs1 : ¬ 9223372036854775807 < nm.length + 2 := by omega
  have hs2 := own_str nm
  clear HI ha hA2
  go_upto_region 6 with fail
  clear hc hbx hs1 hs2
  refine wp_region_pm 10 (.rd 0 (.rd 1 (.rd 2 (.rd 3 (.rd 4 (.wr 5 (.rd 6 (.rd 7 (.rd 8 (.wr 9 .fin)))))))))) (fun w' => w'.heap[pf]? = some (fileO p nm rel size 0 nxt last) ∧ w'.heap[w.heap.size]? = some (boxF pf) ∧ w'.heap[w2.heap.size]? = some (boxS ⟨(R.own nm).toArray⟩)) (by kernel_rfl) (by kernel_rfl) (fun c a d v w h => by cases d <;> exact h) ⟨HA2.out.get List.mem_cons_self, HA2.out.get (List.mem_cons_of_mem _ (List.mem_cons_of_mem _ List.mem_cons_self)), HA2.out.get (List.mem_cons_of_mem _ List.mem_cons_self)⟩ ?_
  repeat
    refine wpPm_read (v := ?_) (by rfl) (by rfl) (fun w' hS => ?_) (fun K hK => ?_)
    rotate_left
    · have hc := fun j => cell_of_row w' pf j _ _ _ hS.1
      have hcb := fun j => cell_of_row w' w.heap.size j _ _ _ hS.2.1
      have hco := fun j => cell_of_row w' w2.heap.size j _ _ _ hS.2.2
      clear hS
      go_simp
      try with_reducible rfl
    go_simp
    refine hK _ ?_
    clear hK K
  refine wpPm_write (by rfl) (fun K hK => ?_)
  go_simp
  refine (HGE.out _ ((Below.refl _ _).drew)).mono ?_
  rintro e w3 ⟨v, rfl, hv, ha3, _⟩
  refine hK.out _ _ (fun w' => w'.heap[pf]? = some (fileO p nm rel size 0 nxt last) ∧ w'.heap[w.heap.size]? = some (boxF pf) ∧ w'.heap[w2.heap.size]? = some (boxS ⟨(R.own nm).toArray⟩)) (fun _ h => h) ⟨ha3.get List.mem_cons_self, ha3.get (List.mem_cons_of_mem _ (List.mem_cons_of_mem _ List.mem_cons_self)), ha3.get (List.mem_cons_of_mem _ List.mem_cons_self)⟩ ?_
  clear hK K
  repeat
    refine wpPm_read (v := ?_) (by rfl) (by rfl) (fun w' hS => ?_) (fun K hK => ?_)
    rotate_left
    · skip
      clear hS
      go_simp
      try with_reducible rfl
    go_simp
    refine hK _ ?_
    clear hK K
  refine wpPm_write (by rfl) (fun K hK => ?_)
  go_simp
  refine hK.out _ _ (fun w' => w'.heap[pf]? = some (fileO p nm rel size 0 nxt last) ∧ w'.heap[w.heap.size]? = some (boxF pf) ∧ w'.heap[w2.heap.size]? = some (boxS ⟨(R.own nm).toArray⟩)) (fun _ h => h) ⟨ha3.get List.mem_cons_self, ha3.get (List.mem_cons_of_mem _ (List.mem_cons_of_mem _ List.mem_cons_self)), ha3.get (List.mem_cons_of_mem _ List.mem_cons_self)⟩ ?_
  clear hK K
  have H3 := Lib.hid ha3
  have HV := Lib.hid hv
  clear ha3 hv HGE HA2
  show wpList _ _ _ _ _ _
  clear HV
  have HUW := Lib.hid (HUP.out w.heap.size w2.heap.size w3 H3.out)
  have hc := fun j => cell_of_row w3 pf j _ _ _ (H3.out.get List.mem_cons_self)
  have hbx := fun j => cell_of_row w3 w.heap.size j _ _ _ (H3.out.get (List.mem_cons_of_mem _ (List.mem_cons_of_mem _ List.mem_cons_self)))
  clear HUP H3
  go_wp2_with fail
  refine HUW.out.mono ?_
  rintro e w4 ⟨rfl, h4⟩
  have H4 := Lib.hid h4
  clear h4 HUW hc hbx
  have hrow := H4.out.get List.mem_cons_self
  have HRW := Lib.hid hrow
  have HBW := Lib.hid (show Boxed w4 w.heap.size _ _ from H4.out.get (List.mem_cons_of_mem _ (List.mem_cons_of_mem _ List.mem_cons_self)))
  have hbx := fun j => cell_of_row w4 w.heap.size j _ _ _ (H4.out.get (List.mem_cons_of_mem _ (List.mem_cons_of_mem _ List.mem_cons_self)))
  have HNE := Lib.hid (HF3.out _ (List.mem_cons_of_mem _ List.mem_cons_self))
  have HEND := Lib.hid (less_box (less_box (file_open H4.out HF3.out HTX.out.sto.two 2)))
  go_upto_region 17 with fail
  refine wp_region_pm 10 (.rd 0 (.rd 1 (.rd 2 (.rd 3 (.rd 4 (.rd 5 (.wr 6 (.rd 7 (.rd 8 (.wr 9 .fin)))))))))) (fun w' => w'.cell? ⟨w.heap.size, 0, none⟩ = some (.pointer (some ⟨pf, 0, none⟩))) (by kernel_rfl) (by kernel_rfl) (fun c a d v w h => by cases d <;> exact h) (hbx 0) ?_
  repeat
    refine wpPm_read (v := ?_) (by rfl) (by rfl) (fun w' hS => ?_) (fun K hK => ?_)
    rotate_left
    · have hcb := hS
      clear hS
      go_simp
      try with_reducible rfl
    go_simp
    refine hK _ ?_
    clear hK K
  have hc := fun j => cell_of_row w4 pf j _ _ _ HRW.out
  have hz := frozen_row HRW.out
  refine wpPm_write (by rfl) (fun K hK => ?_)
  go_simp
  refine hK.out _ _ (fun w' => w'.cell? ⟨w.heap.size, 0, none⟩ = some (.pointer (some ⟨pf, 0, none⟩))) (fun _ h => h) (boxed_any HBW.out HNE.out 4 _).cell ?_
  clear hK K
  repeat
    refine wpPm_read (v := ?_) (by rfl) (by rfl) (fun w' hS => ?_) (fun K hK => ?_)
    rotate_left
    · have hcb := hS
      clear hS
      go_simp
      try with_reducible rfl
    go_simp
    refine hK _ ?_
    clear hK K
  refine wpPm_write (by rfl) (fun K hK => ?_)
  go_simp
  refine hK.out _ _ (fun w' => w'.cell? ⟨w.heap.size, 0, none⟩ = some (.pointer (some ⟨pf, 0, none⟩))) (fun _ h => h) (boxed_any (boxed_any HBW.out HNE.out 4 _) HNE.out 5 _).cell ?_
  clear hK K
  show wpList _ _ _ _ _ _
  go_wp2
  go_ret
  exact ⟨rfl, HEND.out⟩
theorem open_new1 (h : At w0 p ((pf, fileO p nm rel size 0 nxt last) :: fs) s w) (hf : ∀ x ∈ fs, x.1 ≠ pf) (ho : s.opn = false) (ht : J.Two s) (hu : u ≤ 340) (hs : R.Sto u old (J.abandon (J.begin_ s))) (hsz : size < 4294967296) (hk : keysOf (J.abandon (J.begin_ s)).now ⟨(nm ++ [0]).toArray⟩ = (J.abandon (J.begin_ s)).now.map (·.1)) (hkl : ∀ k ∈ (J.abandon (J.begin_ s)).now.map (·.1), k.length ≤ 9) (hnm : nm.length ≤ 3) (hlk : J.look s.now (R.own nm) = some (R.attr rel size)) :
    Calls Tryz.prog 10 #[.pointer (some ⟨pf, 0, none⟩), .int .u8 2] w fun e w' => e = .returned (.string ⟨#[48, 48]⟩) ∧ At w0 p ((pf, fileO p nm rel size 2 1 0) :: fs) (J.committed (R.opened (J.abandon (J.begin_ s)) (R.dels ((J.abandon (J.begin_ s)).now.map (·.1)) ++ [⟨R.own nm, R.attr rel size, false⟩]) [(R.own nm, R.attr rel size)])) w' := by
  obtain ⟨hB, hf2⟩ := h.boxF hf
  have HR := Lib.hid (fready_any (hB.get List.mem_cons_self))
  have HI := Lib.hid (idle_any hB List.mem_cons_self ho)
  have HF2 := Lib.hid hf2
  have ht2 : J.Two (J.abandon (J.begin_ s)) := ⟨ht.wr, ht.h0, ht.h1⟩
  have HT2 := Lib.hid ht2
  have HLK := Lib.hid (show J.look (J.abandon (J.begin_ s)).now (R.own nm) = some (R.attr rel size) from hlk)
  generalize J.abandon (J.begin_ s) = s' at HT2 HLK HI ht2 hs hk hkl ⊢
  have HUP := Lib.hid (fun Bf Bo W (h : At w0 p ((pf, fileO p nm rel size 0 nxt last) :: (Bo, boxS ⟨(R.own nm).toArray⟩) :: (Bf, boxF pf) :: fs) s' W) => open_update hs hu Bf Bo h hnm hsz hk hkl)
  have HTX := Lib.hid (open_tx hs hu hkl hnm (R.attr rel size) rfl)
  clear h hB hf hf2 ht ht2 hlk ho hs hk hkl
  go_enter Tryz.func10, Tryz.ntmps10
  go_wp2_with fail
  refine HR.out.mono ?_
  rintro e w1 ⟨rfl, hw⟩
  clear HR
  subst hw
  go_wp2_with fail
  refine HI.out.mono ?_
  rintro e w2 ⟨rfl, ha⟩
  have hc := fun j => cell_of_row w2 pf j _ _ _ (ha.get List.mem_cons_self)
  have hbx := fun j => cell_of_row w2 w.heap.size j _ _ _ (ha.get (List.mem_cons_of_mem _ List.mem_cons_self))
  have hA2 := ha.boxS HF2.out ⟨(R.own nm).toArray⟩
  have HA2 := Lib.hid hA2.1
  have HF3 := Lib.hid hA2.2
  have HGE := Lib.hid (fun w3 (hb : Below (w2.alloc (boxS ⟨(R.own nm).toArray⟩)).heap.size (w2.alloc (boxS ⟨(R.own nm).toArray⟩)) w3) => at_get (hA2.1.below hb) (R.own nm) (by rw [R.own_len]; omega) (by rw [HLK.out]; intro l e; injection e with e; subst e; show 5 ≤ 90000000; decide))
  rw [HLK.out] at HGE
  have hs1 : ¬ 9223372036854775807 < nm.length + 2 := by omega
  have hs2 := own_str nm
  clear HI ha hA2
  go_upto_region 6 with fail
  clear hc hbx hs1 hs2
  refine wp_region_pm 10 (.rd 0 (.rd 1 (.rd 2 (.rd 3 (.rd 4 (.wr 5 (.rd 6 (.rd 7 (.rd 8 (.wr 9 .fin)))))))))) (fun w' => w'.heap[pf]? = some (fileO p nm rel size 0 nxt last) ∧ w'.heap[w.heap.size]? = some (boxF pf) ∧ w'.heap[w2.heap.size]? = some (boxS ⟨(R.own nm).toArray⟩)) (by kernel_rfl) (by kernel_rfl) (fun c a d v w h => by cases d <;> exact h) ⟨HA2.out.get List.mem_cons_self, HA2.out.get (List.mem_cons_of_mem _ (List.mem_cons_of_mem _ List.mem_cons_self)), HA2.out.get (List.mem_cons_of_mem _ List.mem_cons_self)⟩ ?_
  repeat
    refine wpPm_read (v := ?_) (by rfl) (by rfl) (fun w' hS => ?_) (fun K hK => ?_)
    rotate_left
    · have hc := fun j => cell_of_row w' pf j _ _ _ hS.1
      have hcb := fun j => cell_of_row w' w.heap.size j _ _ _ hS.2.1
      have hco := fun j => cell_of_row w' w2.heap.size j _ _ _ hS.2.2
      clear hS
      go_simp
      try with_reducible rfl
    go_simp
    refine hK _ ?_
    clear hK K
  refine wpPm_write (by rfl) (fun K hK => ?_)
  go_simp
  refine (HGE.out _ ((Below.refl _ _).drew)).mono ?_
  rintro e w3 ⟨v, rfl, hv, ha3, _⟩
  refine hK.out _ _ (fun w' => w'.heap[pf]? = some (fileO p nm rel size 0 nxt last) ∧ w'.heap[w.heap.size]? = some (boxF pf) ∧ w'.heap[w2.heap.size]? = some (boxS ⟨(R.own nm).toArray⟩)) (fun _ h => h) ⟨ha3.get List.mem_cons_self, ha3.get (List.mem_cons_of_mem _ (List.mem_cons_of_mem _ List.mem_cons_self)), ha3.get (List.mem_cons_of_mem _ List.mem_cons_self)⟩ ?_
  clear hK K
  repeat
    refine wpPm_read (v := ?_) (by rfl) (by rfl) (fun w' hS => ?_) (fun K hK => ?_)
    rotate_left
    · skip
      clear hS
      go_simp
      try with_reducible rfl
    go_simp
    refine hK _ ?_
    clear hK K
  refine wpPm_write (by rfl) (fun K hK => ?_)
  go_simp
  refine hK.out _ _ (fun w' => w'.heap[pf]? = some (fileO p nm rel size 0 nxt last) ∧ w'.heap[w.heap.size]? = some (boxF pf) ∧ w'.heap[w2.heap.size]? = some (boxS ⟨(R.own nm).toArray⟩)) (fun _ h => h) ⟨ha3.get List.mem_cons_self, ha3.get (List.mem_cons_of_mem _ (List.mem_cons_of_mem _ List.mem_cons_self)), ha3.get (List.mem_cons_of_mem _ List.mem_cons_self)⟩ ?_
  clear hK K
  have H3 := Lib.hid ha3
  have HV := Lib.hid hv
  clear ha3 hv HGE HA2
  show wpList _ _ _ _ _ _
  have hv0 : Slc w3 _ v (R.attr rel size) := HV.out
  obtain ⟨A, c, rfl, _, hby⟩ := hv0.sl.by
  have hml := malformed_any _ (R.attr rel size) _ (w := w3) hv0.sl rfl (attr_head rel size)
  have HBY := Lib.hid hby
  clear hby HV hv0
  have HML := Lib.hid hml
  clear hml HBY
  have HUW := Lib.hid (HUP.out w.heap.size w2.heap.size w3 H3.out)
  have hc := fun j => cell_of_row w3 pf j _ _ _ (H3.out.get List.mem_cons_self)
  have hbx := fun j => cell_of_row w3 w.heap.size j _ _ _ (H3.out.get (List.mem_cons_of_mem _ (List.mem_cons_of_mem _ List.mem_cons_self)))
  clear HUP H3
  go_wp2_with fail
  refine HML.out.mono ?_
  rintro e w5 ⟨rfl, hw⟩
  subst hw
  clear HML
  go_wp2_with fail
  refine HUW.out.mono ?_
  rintro e w4 ⟨rfl, h4⟩
  have H4 := Lib.hid h4
  clear h4 HUW hc hbx
  have hrow := H4.out.get List.mem_cons_self
  have HRW := Lib.hid hrow
  have HBW := Lib.hid (show Boxed w4 w.heap.size _ _ from H4.out.get (List.mem_cons_of_mem _ (List.mem_cons_of_mem _ List.mem_cons_self)))
  have hbx := fun j => cell_of_row w4 w.heap.size j _ _ _ (H4.out.get (List.mem_cons_of_mem _ (List.mem_cons_of_mem _ List.mem_cons_self)))
  have HNE := Lib.hid (HF3.out _ (List.mem_cons_of_mem _ List.mem_cons_self))
  have HEND := Lib.hid (less_box (less_box (file_open H4.out HF3.out HTX.out.sto.two 2)))
  go_upto_region 17 with fail
  refine wp_region_pm 10 (.rd 0 (.rd 1 (.rd 2 (.rd 3 (.rd 4 (.rd 5 (.wr 6 (.rd 7 (.rd 8 (.wr 9 .fin)))))))))) (fun w' => w'.cell? ⟨w.heap.size, 0, none⟩ = some (.pointer (some ⟨pf, 0, none⟩))) (by kernel_rfl) (by kernel_rfl) (fun c a d v w h => by cases d <;> exact h) (hbx 0) ?_
  repeat
    refine wpPm_read (v := ?_) (by rfl) (by rfl) (fun w' hS => ?_) (fun K hK => ?_)
    rotate_left
    · have hcb := hS
      clear hS
      go_simp
      try with_reducible rfl
    go_simp
    refine hK _ ?_
    clear hK K
  have hc := fun j => cell_of_row w4 pf j _ _ _ HRW.out
  have hz := frozen_row HRW.out
  refine wpPm_write (by rfl) (fun K hK => ?_)
  go_simp
  refine hK.out _ _ (fun w' => w'.cell? ⟨w.heap.size, 0, none⟩ = some (.pointer (some ⟨pf, 0, none⟩))) (fun _ h => h) (boxed_any HBW.out HNE.out 4 _).cell ?_
  clear hK K
  repeat
    refine wpPm_read (v := ?_) (by rfl) (by rfl) (fun w' hS => ?_) (fun K hK => ?_)
    rotate_left
    · have hcb := hS
      clear hS
      go_simp
      try with_reducible rfl
    go_simp
    refine hK _ ?_
    clear hK K
  refine wpPm_write (by rfl) (fun K hK => ?_)
  go_simp
  refine hK.out _ _ (fun w' => w'.cell? ⟨w.heap.size, 0, none⟩ = some (.pointer (some ⟨pf, 0, none⟩))) (fun _ h => h) (boxed_any (boxed_any HBW.out HNE.out 4 _) HNE.out 5 _).cell ?_
  clear hK K
  show wpList _ _ _ _ _ _
  go_wp2
  go_ret
  exact ⟨rfl, HEND.out⟩
end
end Go.Proofs.YtjbepnkchoaipaaGreat
