import Derived.Test.YtjbepnkchoaipaaGreatM31
import Derived.Test.YtjbepnkchoaipaaGreatM30
set_option linter.unusedVariables false
set_option linter.unusedSimpArgs false
/- Law 31: ready, idle, check, fits, malformed, record, take. -/
namespace Go.Proofs.YtjbepnkchoaipaaGreat
open Go.RowKit Go.Lib Go.Maps Go.WideMaps Go.Sort
set_option maxRecDepth 100000
/-- A file at its block. -/
abbrev fileO (p : Nat) (nm : J.B) (rel : Bool) (size mode next last : Nat) : Obj :=
  .cells #[.pointer (some ⟨p, 0, none⟩), .string ⟨nm.toArray⟩, .bool rel, .int .i64 size, .int .u8 mode, .int .i64 next, .int .i64 last] 86 (0, 0)
section
variable {w0 : World} {p pf : Nat} {nm : J.B} {rel : Bool} {size mode next last : Nat} {w : World}
theorem fready_any (h : w.heap[pf]? = some (fileO p nm rel size mode next last)) :
    Calls Tryz.prog 30 #[.pointer (some ⟨pf, 0, none⟩)] w fun e w' => e = .returned (.bool true) ∧ w = w' := by
  have hc := fun j => cell_of_row w pf j _ _ _ h
  clear h
  go_enter Tryz.func30, Tryz.ntmps30
  go_wp2
  go_ret
  exact ⟨rfl, rfl⟩
theorem fits_any (h : w.heap[pf]? = some (fileO p nm rel size mode next last)) (A : Option Addr) (n c : Nat) :
    Calls Tryz.prog 42 #[.pointer (some ⟨pf, 0, none⟩), .slice A n c] w fun e w' => e = .returned (.bool (decide (0 < n ∧ n ≤ size))) ∧ w = w' := by
  have hc := fun j => cell_of_row w pf j _ _ _ h
  clear h
  by_cases h0 : 0 < n
  · have h1 : (0 : Int) < (n : Int) := by omega
    go_enter Tryz.func42, Tryz.ntmps42
    go_wp2
    go_ret
    refine ⟨?_, rfl⟩
    show Ending.returned (.bool _) = _
    congr 2
    simp [h0]
  · obtain rfl : n = 0 := by omega
    go_enter Tryz.func42, Tryz.ntmps42
    go_wp2
    go_ret
    exact ⟨rfl, rfl⟩
/-- What check returns. -/
def chk (wrong : J.B) (need : Bool) (a b : Nat) (rel : Bool) (mode : Nat) : J.B :=
  if need && !rel then [51, 48] else if mode = 0 then [52, 50] else if mode ≠ a ∧ mode ≠ b then wrong else [48, 48]
theorem chk_broken {wrong : J.B} {a b mode : Nat} : chk wrong true a b false mode = [51, 48] := rfl
theorem chk_shut {wrong : J.B} {need rel : Bool} {a b : Nat} (h : (need && !rel) = false) : chk wrong need a b rel 0 = [52, 50] := by
  unfold chk; rw [h]; rfl
theorem chk_wrong {wrong : J.B} {need rel : Bool} {a b mode : Nat} (h : (need && !rel) = false) (h0 : mode ≠ 0) (ha : mode ≠ a) (hb : mode ≠ b) : chk wrong need a b rel mode = wrong := by
  unfold chk; rw [h, if_neg (by decide), if_neg h0, if_pos ⟨ha, hb⟩]
theorem chk_ok {wrong : J.B} {need rel : Bool} {a b mode : Nat} (h : (need && !rel) = false) (h0 : mode ≠ 0) (ha : mode = a ∨ mode = b) : chk wrong need a b rel mode = [48, 48] := by
  unfold chk; rw [h, if_neg (by decide), if_neg h0, if_neg (by omega)]
theorem ret_bs {a b : J.B} (h : b = a) : Ending.returned (.string ⟨a.toArray⟩) = Ending.returned (.string ⟨b.toArray⟩) := by rw [h]
theorem fcheck_any (h : w.heap[pf]? = some (fileO p nm rel size mode next last)) (wrong : J.B) (need : Bool) (a b : Nat) :
    Calls Tryz.prog 41 #[.pointer (some ⟨pf, 0, none⟩), .string ⟨wrong.toArray⟩, .bool need, .int .u8 a, .int .u8 b] w fun e w' => e = .returned (.string ⟨(chk wrong need a b rel mode).toArray⟩) ∧ w = w' := by
  have hr := fready_any h
  have hc := fun j => cell_of_row w pf j _ _ _ h
  clear h
  by_cases hn : (need && !rel) = true
  · obtain ⟨rfl, rfl⟩ : need = true ∧ rel = false := by cases need <;> cases rel <;> simp_all
    go_enter Tryz.func41, Tryz.ntmps41
    go_wp2_with fail
    refine hr.mono ?_
    rintro e w1 ⟨rfl, rfl⟩
    go_wp2
    go_ret
    exact ⟨ret_bs chk_broken, rfl⟩
  · have hn : (need && !rel) = false := by simpa using hn
    have HN := Lib.hid hn
    by_cases h0 : mode = 0
    · subst h0
      cases need <;> cases rel <;> first | (exact absurd hn (by decide)) | skip
      all_goals
        clear hn
        go_enter Tryz.func41, Tryz.ntmps41
        go_wp2_with fail
        refine hr.mono ?_
        rintro e w1 ⟨rfl, rfl⟩
        go_wp2
        go_ret
        exact ⟨ret_bs (chk_shut HN.out), rfl⟩
    · have h0' : ¬ ((mode : Int) = 0) := by omega
      cases need <;> cases rel <;> first | (exact absurd hn (by decide)) | skip
      all_goals
        clear hn
        go_enter Tryz.func41, Tryz.ntmps41
        go_wp2_with fail
        refine hr.mono ?_
        rintro e w1 ⟨rfl, rfl⟩
        go_wp2
        all_goals
          go_ret
          first
            | exact ⟨ret_bs (chk_wrong (a := a) (b := b) HN.out h0 (by omega) (by omega)), rfl⟩
            | exact ⟨ret_bs (chk_ok (a := a) (b := b) HN.out h0 (by omega)), rfl⟩
            | (rename_i h3; simp only [bne_iff_ne, ne_eq, bne_eq_false_iff_eq] at h3; exact ⟨ret_bs (chk_wrong (a := a) (b := b) HN.out h0 (by omega) (by omega)), rfl⟩)
            | (rename_i h3; simp only [bne_iff_ne, ne_eq, bne_eq_false_iff_eq] at h3; exact ⟨ret_bs (chk_ok (a := a) (b := b) HN.out h0 (by omega)), rfl⟩)
theorem malformed_any (v : Value) (l : List UInt8) (M : Nat → Prop) (hv : Sl w M v l) (hl : l.length = 5) (hb : (l.headD 0).toNat ≤ 1) :
    Calls Tryz.prog 33 #[v] w fun e w' => e = .returned (.bool false) ∧ w = w' := by
  obtain ⟨A, c, rfl, hcap, hby⟩ := hv.by
  obtain ⟨b, o, e, hlt, hm, hc⟩ := hby.2 (by omega)
  subst e
  have h0 := hc 0 (by omega)
  have e0 : l[0] = l.headD 0 := by cases l with | nil => simp at hl | cons a t => rfl
  rw [e0] at h0
  have h0 : w.cell? ⟨b, o, none⟩ = some (.int .u8 ((l.headD 0).toNat : Nat)) := h0
  generalize (l.headD 0).toNat = k at h0 hb
  rw [hl] at hcap ⊢
  clear hc e0 hby hv hm
  have h1 : ¬ (2 : Int) < (k : Int) := by omega
  have h2 : (k : Int) < 2 := by omega
  go_enter Tryz.func33, Tryz.ntmps33
  go_wp2
  go_ret
  exact ⟨rfl, rfl⟩
variable {s : J.St} {fs : List (Nat × Obj)}
theorem idle_any (h : At w0 p fs s w) (hf : (pf, fileO p nm rel size mode next last) ∈ fs) (ho : s.opn = false) :
    Calls Tryz.prog 31 #[.pointer (some ⟨pf, 0, none⟩)] w fun e w' => e = .returned (.bool true) ∧ At w0 p fs (J.abandon (J.begin_ s)) w' := by
  have HB := Lib.hid (at_begin h ho)
  have hc := fun j => cell_of_row w pf j _ _ _ (h.get hf)
  have HF := Lib.hid hf
  clear h hf
  go_enter Tryz.func31, Tryz.ntmps31
  go_wp2_with fail
  refine HB.out.mono ?_
  rintro e w1 ⟨rfl, h1⟩
  have HA := Lib.hid (at_abandon h1 rfl)
  have hc1 := fun j => cell_of_row w1 pf j _ _ _ (h1.get HF.out)
  clear h1 hc HB
  go_wp2_with fail
  refine HA.out.mono ?_
  rintro e w2 ⟨rfl, h2⟩
  have H2 := Lib.hid h2
  clear h2
  go_wp2
  go_ret
  exact ⟨rfl, H2.out⟩
theorem frecord_any (h : At w0 p fs s w) (hf : (pf, fileO p nm rel size mode next last) ∈ fs) (n : Int) (hn : nm.length ≤ 100) (hl : ∀ l, J.look s.now (R.key nm (num32 n)) = some l → l.length ≤ 90000000) :
    Calls Tryz.prog 60 #[.pointer (some ⟨pf, 0, none⟩), .int .i64 n] w fun e w' => ∃ v, e = .returned (.tuple #[v, .bool (J.look s.now (R.key nm (num32 n))).isSome]) ∧ Slc w' (· < w.heap.size) v ((J.look s.now (R.key nm (num32 n))).getD []) ∧ At w0 p fs s w' ∧ Below w.heap.size w w' := by
  have hr := h.get hf
  have HP := Lib.hid (fun w1 (hb : Below w.heap.size w w1) => at_get (h.below hb) (R.key nm (num32 n)) (by rw [R.key_len]; omega) hl)
  have HK := Lib.hid (fun w1 => key_any nm n w1 (by omega))
  have HR := Lib.hid hr
  clear h hf hl
  go_enter Tryz.func60, Tryz.ntmps60
  go_upto_region 1 with fail
  refine wp_region_pm 14 (.rd 0 (.rd 1 (.rd 2 (.rd 3 (.rd 4 (.rd 5 (.rd 6 (.rd 7 (.rd 8 (.rd 9 (.wr 10 (.wr 11 (.rd 12 (.rd 13 .fin)))))))))))))) (fun w' => w'.heap[pf]? = some (fileO p nm rel size mode next last)) (by kernel_rfl) (by kernel_rfl) (fun c a d v w h => by cases d <;> exact h) hr ?_
  repeat
    refine wpPm_read (v := ?_) (by rfl) (by rfl) (fun w' hS => ?_) (fun K hK => ?_)
    rotate_left
    · have hc := fun j => cell_of_row w' pf j _ _ _ hS
      clear hS
      go_simp
      try with_reducible rfl
    go_simp
    refine hK _ ?_
    clear hK K
  refine wpPm_write (by rfl) (fun K hK => ?_)
  go_simp
  refine (HK.out _).mono ?_
  rintro e w1 ⟨rfl, hb1⟩
  have hr1 := (hb1.block pf (Array.getElem?_eq_some_iff.1 HR.out).1).trans HR.out
  refine hK.out _ _ (fun w' => w'.heap[pf]? = some (fileO p nm rel size mode next last)) (fun _ h => h) hr1 ?_
  clear hK K
  refine wpPm_write (by rfl) (fun K hK => ?_)
  go_simp
  have hb2 : Below w.heap.size w w1 := ((Below.refl _ w).drew).trans hb1
  refine (HP.out _ hb2).mono ?_
  rintro e w2 ⟨v, rfl, hs, ha, hb3⟩
  have hb4 := hb2.trans (hb3.mono hb2.size)
  have hr2 := (hb4.block pf (Array.getElem?_eq_some_iff.1 HR.out).1).trans HR.out
  refine hK.out _ _ (fun w' => w'.heap[pf]? = some (fileO p nm rel size mode next last)) (fun _ h => h) hr2 ?_
  clear hK K
  repeat
    refine wpPm_read (v := ?_) (by rfl) (by rfl) (fun w' hS => ?_) (fun K hK => ?_)
    rotate_left
    · have hc := fun j => cell_of_row w' pf j _ _ _ hS
      clear hS
      go_simp
      try with_reducible rfl
    go_simp
    refine hK _ ?_
    clear hK K
  have HS := Lib.hid (hs.weak (M' := (· < w.heap.size)) (fun k h => Nat.lt_of_lt_of_le h hb2.size))
  have HA := Lib.hid ha
  have HB := Lib.hid hb4
  clear hs ha hb1 hb2 hb3 hb4 hr1 hr2 HK HP HR hr
  show wpList _ _ _ _ _ _
  go_wp2
  go_ret2
  exact ⟨_, rfl, HS.out, HA.out, HB.out⟩
theorem file_noBy (h : w.heap[pf]? = some (fileO p nm rel size mode next last)) : NoBy w pf := by
  refine ⟨fun o u v hh => ?_, fun ⟨_, cur, fr, e⟩ => ?_⟩
  · rw [cell_of_row w pf o _ _ _ h, cell_of_row w pf (o + 1) _ _ _ h] at hh
    obtain ⟨h1, h2⟩ := hh
    rcases o with _ | _ | _ | _ | _ | _ | _ | o <;> simp at h1 h2
  · rw [h] at e
    injection e with e
    injection e with e1 e2
    exact absurd e2 (by decide)
/-- Two of a file's fields are set. -/
theorem file_two {w' : World} (h : At w0 p ((pf, fileO p nm rel size mode next last) :: fs) s w) (hf : ∀ x ∈ fs, x.1 ≠ pf) (ht : J.Two s) (a b : Nat) :
    At w0 p ((pf, fileO p nm rel size mode a b) :: fs) s ((w.setCell ⟨pf, 5, none⟩ (.int .i64 a)).setCell ⟨pf, 6, none⟩ (.int .i64 b)) := by
  have h0 := h.get List.mem_cons_self
  exact h.turn hf ht (file_noBy h0) (grown_set (grown_set (World.grownBy.refl w _) 5 _) 6 _) (blk_set (blk_set h0 5 _) 6 _)
end
end Go.Proofs.YtjbepnkchoaipaaGreat
/- Law 31: update. -/
namespace Go.Proofs.YtjbepnkchoaipaaGreat
open Go.RowKit Go.Lib Go.Maps Go.WideMaps Go.Sort
set_option maxRecDepth 100000
section
variable {w0 : World} {p pf : Nat} {nm : J.B} {rel : Bool} {size mode nxt last : Nat} {w : World} {s s1 s2 : J.St} {fs : List (Nat × Obj)}
theorem update_any (h : At w0 p fs s w) (hf : (pf, fileO p nm rel size mode nxt last) ∈ fs) (ho : s.opn = false) (g : Nat) (caps : Array Value) (he : ∀ w, (callFunc g caps).run Tryz.prog w = .ok (.enter g caps) w)
    (hcl : ∀ w1, At w0 p fs (J.begin_ s) w1 → Calls Tryz.prog g caps w1 fun e w' => (∃ v, e = .returned v) ∧ At w0 p fs s1 w')
    (hcm : ∀ w1, At w0 p fs s1 w1 → ∃ n : Int, Calls Tryz.prog 70 #[.pointer (some ⟨p, 0, none⟩)] w1 fun e w' => e = .returned (.tuple #[.int .i64 n, .int .i64 0]) ∧ At w0 p fs s2 w') :
    Calls Tryz.prog 36 #[.pointer (some ⟨pf, 0, none⟩), .func (.func g) #[] caps] w fun e w' => e = .returned (.string ⟨#[48, 48]⟩) ∧ At w0 p fs s2 w' := by
  have HB := Lib.hid (at_begin h ho)
  have hc := fun j => cell_of_row w pf j _ _ _ (h.get hf)
  have HF := Lib.hid hf
  have HC := Lib.hid hcl
  have HM := Lib.hid hcm
  clear h hf hcl hcm
  go_enter Tryz.func36, Tryz.ntmps36
  go_wp2_with fail
  refine HB.out.mono ?_
  rintro e w1 ⟨rfl, h1⟩
  have H1 := Lib.hid h1
  clear h1 hc HB
  go_wp2_with fail
  refine (HC.out _ H1.out).mono ?_
  rintro e w2 ⟨⟨v, rfl⟩, h2⟩
  obtain ⟨n, hm⟩ := HM.out _ h2
  have hc2 := fun j => cell_of_row w2 pf j _ _ _ (h2.get HF.out)
  have HM2 := Lib.hid hm
  clear h2 hm HC H1 HM HF
  go_wp2_with fail
  refine HM2.out.mono ?_
  rintro e w3 ⟨rfl, h3⟩
  have H3 := Lib.hid h3
  clear h3 hc2 HM2
  go_wp2
  go_ret
  exact ⟨rfl, H3.out⟩
/-- .. in an open transaction. -/
theorem update_open (h : At w0 p fs s w) (hf : (pf, fileO p nm rel size mode nxt last) ∈ fs) (ho : s.opn = true) (f : Value) :
    Calls Tryz.prog 36 #[.pointer (some ⟨pf, 0, none⟩), f] w fun e w' => e = .returned (.string ⟨#[51, 48]⟩) ∧ w = w' := by
  have HB := Lib.hid (at_begin_open h ho)
  have hc := fun j => cell_of_row w pf j _ _ _ (h.get hf)
  clear h hf
  go_enter Tryz.func36, Tryz.ntmps36
  go_wp2_with fail
  refine HB.out.mono ?_
  rintro e w1 ⟨rfl, rfl⟩
  go_wp2
  go_ret
  exact ⟨rfl, rfl⟩
theorem put1_any (h : At w0 p fs s w) (hf : (pf, fileO p nm rel size mode nxt last) ∈ fs) (ho : s.opn = true) (Bf Bn Bb n : Nat) (A : Option Addr) (l c : Nat) (val : J.B) (h1 : w.cell? ⟨Bf, 0, none⟩ = some (.pointer (some ⟨pf, 0, none⟩))) (h2 : w.cell? ⟨Bn, 0, none⟩ = some (.int .i64 (n : Nat))) (h3 : w.cell? ⟨Bb, 0, none⟩ = some (.slice A l c))
    (hn : n < 4294967296) (hnm : nm.length ≤ 100) (hv : Sl w NoM (.slice A l c) val) (hvl : val.length ≤ 8192) (hr : J.add s ⟨R.key nm n, val, false⟩ = (s1, 0)) :
    Calls Tryz.prog 78 #[.pointer (some ⟨Bf, 0, none⟩), .pointer (some ⟨Bn, 0, none⟩), .pointer (some ⟨Bb, 0, none⟩)] w fun e w' => (∃ v, e = .returned v) ∧ At w0 p fs s1 w' := by
  have HP := Lib.hid (fun w1 (hb : Below w.heap.size w w1) => at_put (h.below hb) ho (R.key nm n) val _ (fun e => by have := R.key_len nm n; rw [e] at this; simp at this) (by rw [R.key_len]; omega) hvl (hv.step (Step.of_below hb)) 0 hr)
  have HK := Lib.hid (fun w1 => key_any nm (n : Nat) w1 (by omega))
  rw [num32_nat hn] at HK
  have hrow := h.get hf
  have HR := Lib.hid hrow
  clear h hf hv hr
  go_enter Tryz.func78, Tryz.ntmps78
  refine wp_region_pm 12 (.rd 0 (.rd 1 (.rd 2 (.rd 3 (.rd 4 (.rd 5 (.rd 6 (.rd 7 (.rd 8 (.rd 9 (.rd 11 (.wr 10 .fin)))))))))))) (fun w' => w'.heap[pf]? = some (fileO p nm rel size mode nxt last) ∧ w'.cell? ⟨Bf, 0, none⟩ = some (.pointer (some ⟨pf, 0, none⟩)) ∧ w'.cell? ⟨Bn, 0, none⟩ = some (.int .i64 (n : Nat)) ∧ w'.cell? ⟨Bb, 0, none⟩ = some (.slice A l c)) (by kernel_rfl) (by kernel_rfl) (fun c a d v w h => by cases d <;> exact h) ⟨hrow, h1, h2, h3⟩ ?_
  repeat
    refine wpPm_read (v := ?_) (by rfl) (by rfl) (fun w' hS => ?_) (fun K hK => ?_)
    rotate_left
    · have hc := fun j => cell_of_row w' pf j _ _ _ hS.1
      have hc1 := hS.2.1
      have hc2 := hS.2.2.1
      have hc3 := hS.2.2.2
      clear hS
      go_simp
      try with_reducible rfl
    go_simp
    refine hK _ ?_
    clear hK K
  refine wpPm_write (by rfl) (fun K hK => ?_)
  go_simp
  refine (HK.out _).mono ?_
  rintro e w1 ⟨rfl, hb1⟩
  have hb2 : Below w.heap.size w w1 := ((Below.refl _ w).drew).trans hb1
  refine hK.out _ _ (fun w' => w'.heap[pf]? = some (fileO p nm rel size mode nxt last) ∧ w'.cell? ⟨Bf, 0, none⟩ = some (.pointer (some ⟨pf, 0, none⟩)) ∧ w'.cell? ⟨Bn, 0, none⟩ = some (.int .i64 (n : Nat)) ∧ w'.cell? ⟨Bb, 0, none⟩ = some (.slice A l c)) (fun _ h => h) ⟨(hb2.block pf (Array.getElem?_eq_some_iff.1 HR.out).1).trans HR.out, (hb2.cell (p := ⟨Bf, 0, none⟩) (World.block_lt_of_cell? w _ h1)).trans h1, (hb2.cell (p := ⟨Bn, 0, none⟩) (World.block_lt_of_cell? w _ h2)).trans h2, (hb2.cell (p := ⟨Bb, 0, none⟩) (World.block_lt_of_cell? w _ h3)).trans h3⟩ ?_
  clear hK K
  have HPW := Lib.hid (HP.out w1 hb2)
  clear hb1 hb2 HP HK HR hrow h1 h2 h3
  show wpList _ _ _ _ _ _
  go_wp2_with fail
  refine HPW.out.mono ?_
  rintro e w2 ⟨rfl, h4⟩
  have H4 := Lib.hid h4
  clear h4 HPW
  go_wp2
  go_end0
  exact ⟨⟨_, rfl⟩, H4.out⟩
/-- A record is written in a transaction of its own. -/
theorem fput_any (h : At w0 p fs s w) (hf : (pf, fileO p nm rel size mode nxt last) ∈ fs) (ho : s.opn = false) (n : Nat) (A : Option Addr) (l c : Nat) (val : J.B) (hn : n < 4294967296) (hnm : nm.length ≤ 100)
    (hv : ∀ gs t w1, (∀ x ∈ fs, x ∈ gs) → At w0 p gs t w1 → Sl w1 NoM (.slice A l c) val) (hvl : val.length ≤ 8192) (hr : J.add (J.begin_ s) ⟨R.key nm n, val, false⟩ = (s1, 0))
    (hcm : ∀ gs w1, At w0 p gs s1 w1 → ∃ k : Int, Calls Tryz.prog 70 #[.pointer (some ⟨p, 0, none⟩)] w1 fun e w' => e = .returned (.tuple #[.int .i64 k, .int .i64 0]) ∧ At w0 p gs s2 w') :
    Calls Tryz.prog 44 #[.pointer (some ⟨pf, 0, none⟩), .int .i64 (n : Nat), .slice A l c] w fun e w' => e = .returned (.string ⟨#[48, 48]⟩) ∧ At w0 p fs s2 w' := by
  have h3 := ((h.more (.cells #[.pointer (some ⟨pf, 0, none⟩)] 27)).more (.cells #[.int .i64 (n : Nat)] 3)).more (.cells #[.slice A l c] 37)
  rw [World.size_alloc, World.size_alloc] at h3
  have hu := update_any h3 (List.mem_cons_of_mem _ (List.mem_cons_of_mem _ (List.mem_cons_of_mem _ hf))) ho 78 #[.pointer (some ⟨w.heap.size, 0, none⟩), .pointer (some ⟨w.heap.size + 1, 0, none⟩), .pointer (some ⟨w.heap.size + 1 + 1, 0, none⟩)]
    (fun w => enters_of Tryz.func78 (by kernel_rfl) rfl _ w)
    (fun w1 h1 => put1_any h1 (List.mem_cons_of_mem _ (List.mem_cons_of_mem _ (List.mem_cons_of_mem _ hf))) rfl _ _ _ n A l c val
      (by rw [cell_of_row w1 _ 0 _ _ _ (h1.get (List.mem_cons_of_mem _ (List.mem_cons_of_mem _ List.mem_cons_self)))]; rfl)
      (by rw [cell_of_row w1 _ 0 _ _ _ (h1.get (List.mem_cons_of_mem _ List.mem_cons_self))]; rfl)
      (by rw [cell_of_row w1 _ 0 _ _ _ (h1.get List.mem_cons_self)]; rfl)
      hn hnm (hv _ _ _ (fun x hx => List.mem_cons_of_mem _ (List.mem_cons_of_mem _ (List.mem_cons_of_mem _ hx))) h1) hvl hr)
    (fun w1 h1 => hcm _ w1 h1)
  have HU := Lib.hid hu
  clear h h3 hf hv hr hcm hu
  go_enter Tryz.func44, Tryz.ntmps44
  go_wp2_with fail
  refine HU.out.mono ?_
  rintro e w1 ⟨rfl, h1⟩
  have H1 := Lib.hid (h1.less (gs := fs) (fun x hx => List.mem_cons_of_mem _ (List.mem_cons_of_mem _ (List.mem_cons_of_mem _ hx))))
  clear h1 HU
  go_wp2
  go_ret
  exact ⟨rfl, H1.out⟩
theorem delete2_any (h : At w0 p fs s w) (hf : (pf, fileO p nm rel size mode nxt last) ∈ fs) (Bf Bn n : Nat) (h1 : w.cell? ⟨Bf, 0, none⟩ = some (.pointer (some ⟨pf, 0, none⟩))) (h2 : w.cell? ⟨Bn, 0, none⟩ = some (.int .i64 (n : Nat)))
    (hn : n < 4294967296) (hnm : nm.length ≤ 100) (hr : J.delete s (R.key nm n) = (s1, 0)) :
    Calls Tryz.prog 65 #[.pointer (some ⟨Bf, 0, none⟩), .pointer (some ⟨Bn, 0, none⟩)] w fun e w' => (∃ v, e = .returned v) ∧ At w0 p fs s1 w' := by
  have HP := Lib.hid (fun w1 (hb : Below w.heap.size w w1) => at_delete (h.below hb) (R.key nm n) (by rw [R.key_len]; omega) 0 hr)
  have HK := Lib.hid (fun w1 => key_any nm (n : Nat) w1 (by omega))
  rw [num32_nat hn] at HK
  have hrow := h.get hf
  have HR := Lib.hid hrow
  clear h hf hr
  go_enter Tryz.func65, Tryz.ntmps65
  refine wp_region_pm 11 (.rd 0 (.rd 1 (.rd 2 (.rd 3 (.rd 4 (.rd 5 (.rd 6 (.rd 7 (.rd 8 (.rd 9 (.wr 10 .fin))))))))))) (fun w' => w'.heap[pf]? = some (fileO p nm rel size mode nxt last) ∧ w'.cell? ⟨Bf, 0, none⟩ = some (.pointer (some ⟨pf, 0, none⟩)) ∧ w'.cell? ⟨Bn, 0, none⟩ = some (.int .i64 (n : Nat))) (by kernel_rfl) (by kernel_rfl) (fun c a d v w h => by cases d <;> exact h) ⟨hrow, h1, h2⟩ ?_
  repeat
    refine wpPm_read (v := ?_) (by rfl) (by rfl) (fun w' hS => ?_) (fun K hK => ?_)
    rotate_left
    · have hc := fun j => cell_of_row w' pf j _ _ _ hS.1
      have hc1 := hS.2.1
      have hc2 := hS.2.2
      clear hS
      go_simp
      try with_reducible rfl
    go_simp
    refine hK _ ?_
    clear hK K
  refine wpPm_write (by rfl) (fun K hK => ?_)
  go_simp
  refine (HK.out _).mono ?_
  rintro e w1 ⟨rfl, hb1⟩
  have hb2 : Below w.heap.size w w1 := ((Below.refl _ w).drew).trans hb1
  refine hK.out _ _ (fun w' => w'.heap[pf]? = some (fileO p nm rel size mode nxt last) ∧ w'.cell? ⟨Bf, 0, none⟩ = some (.pointer (some ⟨pf, 0, none⟩)) ∧ w'.cell? ⟨Bn, 0, none⟩ = some (.int .i64 (n : Nat))) (fun _ h => h) ⟨(hb2.block pf (Array.getElem?_eq_some_iff.1 HR.out).1).trans HR.out, (hb2.cell (p := ⟨Bf, 0, none⟩) (World.block_lt_of_cell? w _ h1)).trans h1, (hb2.cell (p := ⟨Bn, 0, none⟩) (World.block_lt_of_cell? w _ h2)).trans h2⟩ ?_
  clear hK K
  have HPW := Lib.hid (HP.out w1 hb2)
  clear hb1 hb2 HP HK HR hrow h1 h2
  show wpList _ _ _ _ _ _
  go_wp2_with fail
  refine HPW.out.mono ?_
  rintro e w2 ⟨rfl, h4⟩
  have H4 := Lib.hid h4
  clear h4 HPW
  go_wp2
  go_end0
  exact ⟨⟨_, rfl⟩, H4.out⟩
/-- What Delete's transaction does, over its two boxes. -/
theorem delete_upd (h : At w0 p fs s w) (hf : (pf, fileO p nm rel size mode nxt last) ∈ fs) (ho : s.opn = false) (Bf Bn n : Nat) (h1 : (Bf, .cells #[.pointer (some ⟨pf, 0, none⟩)] 27 (0, 0)) ∈ fs) (h2 : (Bn, .cells #[.int .i64 (n : Nat)] 3 (0, 0)) ∈ fs) (hn : n < 4294967296) (hnm : nm.length ≤ 100) (hr : J.delete (J.begin_ s) (R.key nm n) = (s1, 0))
    (hcm : ∀ gs w1, At w0 p gs s1 w1 → ∃ k : Int, Calls Tryz.prog 70 #[.pointer (some ⟨p, 0, none⟩)] w1 fun e w' => e = .returned (.tuple #[.int .i64 k, .int .i64 0]) ∧ At w0 p gs s2 w') :
    Calls Tryz.prog 36 #[.pointer (some ⟨pf, 0, none⟩), .func (.func 65) #[] #[.pointer (some ⟨Bf, 0, none⟩), .pointer (some ⟨Bn, 0, none⟩)]] w fun e w' => e = .returned (.string ⟨#[48, 48]⟩) ∧ At w0 p fs s2 w' :=
  update_any h hf ho 65 #[.pointer (some ⟨Bf, 0, none⟩), .pointer (some ⟨Bn, 0, none⟩)]
    (fun w => enters_of Tryz.func65 (by kernel_rfl) rfl _ w)
    (fun w1 ha => delete2_any ha hf Bf Bn n (by rw [cell_of_row w1 _ 0 _ _ _ (ha.get h1)]; rfl) (by rw [cell_of_row w1 _ 0 _ _ _ (ha.get h2)]; rfl) hn hnm hr)
    (fun w1 ha => hcm _ w1 ha)
end
end Go.Proofs.YtjbepnkchoaipaaGreat
