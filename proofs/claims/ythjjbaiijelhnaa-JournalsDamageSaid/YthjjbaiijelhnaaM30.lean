import Derived.Test.YthjjbaiijelhnaaM27
set_option linter.unusedVariables false
set_option linter.unusedSimpArgs false
/- Law 30: does, some of its acts. -/
namespace Go.Proofs.Ythjjbaiijelhnaa
open Go.RowKit Go.Lib Go.Maps Go.WideMaps Go.Sort
set_option maxRecDepth 100000
set_option maxHeartbeats 4000000 in
theorem does_comO6 (A u0 u c : Nat) (p q : Nat) (M : Nat → Prop) (s : J.St) (m : LM) (what key : Nat) (Av : Option Addr) (n cv : Nat) (val : J.B) (w : World) (hin : DoesIn A u0 u c p q M s m key Av n cv val w) (hw : (what : Int).tmod 8 = 6) (ho : s.opn = true) :
    Calls Try.prog 32 #[.pointer (some ⟨p, 0, none⟩), .pointer (some ⟨q, 0, none⟩), actV what key Av n cv] w (DoesRes A u0 (u + c) p q M s m w) := by
  have hbox := heap_alloc_new w (.cells #[.int .u8 what, .int .u8 key, .slice Av n cv] 80)
  have HB0 := Lib.hid ((Below.refl _ w).alloc (Nat.le_refl _) (.cells #[.int .u8 what, .int .u8 key, .slice Av n cv] 80))
  have hcb := fun j => cell_of_row _ w.heap.size j _ _ _ hbox
  have HBX := Lib.hid hbox
  have HIN := Lib.hid hin
  have HKY := Lib.hid (key_any key (w.alloc (.cells #[.int .u8 what, .int .u8 key, .slice Av n cv] 80)) hin.key)
  clear hin hbox
  go_enter Try.func32, Try.ntmps32
  go_wp2_with fail
  refine HKY.out.mono ?_
  rintro e w1 ⟨rfl, hb1⟩
  have hat : DoesAt A u0 u c p q M s m key Av n cv val w what w1 := by
    have hb := HB0.out.trans (hb1.mono (by simp))
    refine ⟨HIN.out.below hb, (hb1.block _ (by simp)).trans HBX.out, fun hm => absurd (HIN.out.cap _ hm) (Nat.lt_irrefl _), fun e => ?_, hb⟩
    have := HIN.out.md.lt
    omega
  have HAT := Lib.hid hat
  have hcb := fun j => cell_of_row w1 w.heap.size j _ _ _ hat.box
  have hby := hat.inp.by.1
  clear hat hb1 HKY
  obtain ⟨nv, wv, hr, hnq, hnow, hwas, ⟨nA, nn, nc, rfl⟩, ⟨wA, wn, wc, rfl⟩⟩ := HAT.out.inp.md.row (b := true) (HAT.out.inp.kept.rel.opn.trans ho)
  have hcq := fun j => cell_of_row w1 q j _ _ _ hr
  have hfq := frozen_row hr
  have HR := Lib.hid hr
  have HNQ := Lib.hid hnq
  have HNOW := Lib.hid hnow
  have HWAS := Lib.hid hwas
  clear hr hnq hnow hwas
  go_wp2_with (refine wpList_str_by rfl _ rfl Av n cv rfl hby ?_)
  obtain ⟨hf, hl2, hcomm⟩ := J.commit_goes HAT.out.inp.kept HAT.out.inp.lim HAT.out.inp.ok ho
  have hp := commit_anyfit p M s w1 HAT.out.inp.st ho (HAT.out.inp.kept.bud.sp ho) (J.csmall_was HAT.out.inp.kept (by have := HAT.out.inp.lim.u; omega) ho) (by have := HAT.out.inp.kept.bud.cm; have := HAT.out.inp.lim.u; omega) HAT.out.inp.ok.area hf
  rw [hcomm, ← HAT.out.inp.kept.rel.com] at hp
  refine hp.mono ?_
  clear hp hf hl2 hcomm
  rintro e w2 ⟨rfl, M', hst, hstep⟩
  have hcl : m.commits ≤ 540 := by have := HAT.out.inp.kept.bud.cm; have := HAT.out.inp.kept.rel.com; have := HAT.out.inp.lim.u; omega
  have hr2 := (hstep.block q (Array.getElem?_eq_some_iff.1 HR.out).1 HNQ.out).trans HR.out
  have hnow2 := HNOW.out.step hstep
  have hwas2 := HWAS.out.step hstep
  have hcq := fun j => cell_of_row w2 q j _ _ _ hr2
  have hfq := frozen_row hr2
  have hg := grown_set (grown_set (World.grownBy.refl w2 (some q)) 2 (.bool false)) 3 (.int .i64 ((m.commits : Int) + 1))
  have hrow := blk_set (blk_set hr2 2 (.bool false)) 3 (.int .i64 ((m.commits : Int) + 1))
  obtain ⟨hm2, hoth⟩ := (HAT.out.inp.md.step hstep).turn (n := m.commits + 1) hg hrow hnow2 hwas2
  have HM2 := Lib.hid hm2
  have HG := Lib.hid hg
  have HST0 := Lib.hid (hst.oth hoth)
  have HSTEP := Lib.hid hstep
  clear hst hstep hr2 hnow2 hwas2 hg hrow hm2 hoth
  go_wp2
  go_ret
  have hk := J.kept_commit HAT.out.inp.kept HAT.out.inp.lim HAT.out.inp.ok ho HAT.out.inp.c
  exact ⟨rfl, M', _, ⟨m.now, m.was, false, m.commits + 1⟩, HST0.out, HM2.out, hk.1, hk.2, (((Step.of_below HAT.out.below).or q).trans (HSTEP.out.or q)).trans (set_step HG.out)⟩
set_option maxHeartbeats 4000000 in
theorem does_abaC (A u0 u c : Nat) (p q : Nat) (M : Nat → Prop) (s : J.St) (m : LM) (what key : Nat) (Av : Option Addr) (n cv : Nat) (val : J.B) (w : World) (hin : DoesIn A u0 u c p q M s m key Av n cv val w) (hw : (what : Int).tmod 8 = 7) (hk : (key : Int).tmod 2 = 0) (ho : s.opn = false) :
    Calls Try.prog 32 #[.pointer (some ⟨p, 0, none⟩), .pointer (some ⟨q, 0, none⟩), actV what key Av n cv] w (DoesRes A u0 (u + c) p q M s m w) := by
  have hbox := heap_alloc_new w (.cells #[.int .u8 what, .int .u8 key, .slice Av n cv] 80)
  have HB0 := Lib.hid ((Below.refl _ w).alloc (Nat.le_refl _) (.cells #[.int .u8 what, .int .u8 key, .slice Av n cv] 80))
  have hcb := fun j => cell_of_row _ w.heap.size j _ _ _ hbox
  have HBX := Lib.hid hbox
  have HIN := Lib.hid hin
  have HKY := Lib.hid (key_any key (w.alloc (.cells #[.int .u8 what, .int .u8 key, .slice Av n cv] 80)) hin.key)
  clear hin hbox
  go_enter Try.func32, Try.ntmps32
  go_wp2_with fail
  refine HKY.out.mono ?_
  rintro e w1 ⟨rfl, hb1⟩
  have hat : DoesAt A u0 u c p q M s m key Av n cv val w what w1 := by
    have hb := HB0.out.trans (hb1.mono (by simp))
    refine ⟨HIN.out.below hb, (hb1.block _ (by simp)).trans HBX.out, fun hm => absurd (HIN.out.cap _ hm) (Nat.lt_irrefl _), fun e => ?_, hb⟩
    have := HIN.out.md.lt
    omega
  have HAT := Lib.hid hat
  have hcb := fun j => cell_of_row w1 w.heap.size j _ _ _ hat.box
  have hby := hat.inp.by.1
  clear hat hb1 HKY
  obtain ⟨nv, wv, hr, hnq, hnow, hwas, ⟨nA, nn, nc, rfl⟩, ⟨wA, wn, wc, rfl⟩⟩ := HAT.out.inp.md.row (b := false) (HAT.out.inp.kept.rel.opn.trans ho)
  have hcq := fun j => cell_of_row w1 q j _ _ _ hr
  have hfq := frozen_row hr
  have HR := Lib.hid hr
  have HNQ := Lib.hid hnq
  have HNOW := Lib.hid hnow
  have HWAS := Lib.hid hwas
  clear hr hnq hnow hwas
  go_wp2_with (refine wpList_str_by rfl _ rfl Av n cv rfl hby ?_)
  refine (abandon_shut p M s _ HAT.out.inp.st ho).mono ?_
  rintro e w2 ⟨rfl, rfl⟩
  go_wp2
  go_ret
  exact ⟨rfl, M, s, m, HAT.out.inp.st, HAT.out.inp.md, HAT.out.inp.kept.more (Nat.le_add_right _ _), .same, (Step.of_below HAT.out.below).or q⟩
set_option maxHeartbeats 4000000 in
theorem does_abaO (A u0 u c : Nat) (p q : Nat) (M : Nat → Prop) (s : J.St) (m : LM) (what key : Nat) (Av : Option Addr) (n cv : Nat) (val : J.B) (w : World) (hin : DoesIn A u0 u c p q M s m key Av n cv val w) (hw : (what : Int).tmod 8 = 7) (hk : (key : Int).tmod 2 = 0) (ho : s.opn = true) :
    Calls Try.prog 32 #[.pointer (some ⟨p, 0, none⟩), .pointer (some ⟨q, 0, none⟩), actV what key Av n cv] w (DoesRes A u0 (u + c) p q M s m w) := by
  have hbox := heap_alloc_new w (.cells #[.int .u8 what, .int .u8 key, .slice Av n cv] 80)
  have HB0 := Lib.hid ((Below.refl _ w).alloc (Nat.le_refl _) (.cells #[.int .u8 what, .int .u8 key, .slice Av n cv] 80))
  have hcb := fun j => cell_of_row _ w.heap.size j _ _ _ hbox
  have HBX := Lib.hid hbox
  have HIN := Lib.hid hin
  have HKY := Lib.hid (key_any key (w.alloc (.cells #[.int .u8 what, .int .u8 key, .slice Av n cv] 80)) hin.key)
  clear hin hbox
  go_enter Try.func32, Try.ntmps32
  go_wp2_with fail
  refine HKY.out.mono ?_
  rintro e w1 ⟨rfl, hb1⟩
  have hat : DoesAt A u0 u c p q M s m key Av n cv val w what w1 := by
    have hb := HB0.out.trans (hb1.mono (by simp))
    refine ⟨HIN.out.below hb, (hb1.block _ (by simp)).trans HBX.out, fun hm => absurd (HIN.out.cap _ hm) (Nat.lt_irrefl _), fun e => ?_, hb⟩
    have := HIN.out.md.lt
    omega
  have HAT := Lib.hid hat
  have hcb := fun j => cell_of_row w1 w.heap.size j _ _ _ hat.box
  have hby := hat.inp.by.1
  clear hat hb1 HKY
  obtain ⟨nv, wv, hr, hnq, hnow, hwas, ⟨nA, nn, nc, rfl⟩, ⟨wA, wn, wc, rfl⟩⟩ := HAT.out.inp.md.row (b := true) (HAT.out.inp.kept.rel.opn.trans ho)
  have hcq := fun j => cell_of_row w1 q j _ _ _ hr
  have hfq := frozen_row hr
  have HR := Lib.hid hr
  have HNQ := Lib.hid hnq
  have HNOW := Lib.hid hnow
  have HWAS := Lib.hid hwas
  clear hr hnq hnow hwas
  go_wp2_with (refine wpList_str_by rfl _ rfl Av n cv rfl hby ?_)
  have hg := grown_set (grown_set (World.grownBy.refl w1 (some q)) 2 (.bool false)) 0 (.slice wA wn wc)
  have hrow := blk_set (blk_set (HR.out) 2 (.bool false)) 0 (.slice wA wn wc)
  obtain ⟨hm2, hoth⟩ := HAT.out.inp.md.turn hg hrow HWAS.out HWAS.out
  have hst0 := HAT.out.inp.st.oth hoth
  refine (abandon_any p M s _ hst0 ho).mono ?_
  rintro e w2 ⟨rfl, hst, hstep⟩
  go_wp2
  go_ret
  have hk := J.kept_abandon (c := c) HAT.out.inp.kept ho
  exact ⟨rfl, M, _, ⟨m.was, m.was, false, m.commits⟩, hst, hm2.step hstep, hk.1, hk.2, (((Step.of_below HAT.out.below).or q).trans (set_step hg)).trans (hstep.or q)⟩
set_option maxHeartbeats 4000000 in
theorem does_cmpO (A u0 u c : Nat) (p q : Nat) (M : Nat → Prop) (s : J.St) (m : LM) (what key : Nat) (Av : Option Addr) (n cv : Nat) (val : J.B) (w : World) (hin : DoesIn A u0 u c p q M s m key Av n cv val w) (hw : (what : Int).tmod 8 = 7) (hk : (key : Int).tmod 2 = 1) (ho : s.opn = true) :
    Calls Try.prog 32 #[.pointer (some ⟨p, 0, none⟩), .pointer (some ⟨q, 0, none⟩), actV what key Av n cv] w (DoesRes A u0 (u + c) p q M s m w) := by
  have hbox := heap_alloc_new w (.cells #[.int .u8 what, .int .u8 key, .slice Av n cv] 80)
  have HB0 := Lib.hid ((Below.refl _ w).alloc (Nat.le_refl _) (.cells #[.int .u8 what, .int .u8 key, .slice Av n cv] 80))
  have hcb := fun j => cell_of_row _ w.heap.size j _ _ _ hbox
  have HBX := Lib.hid hbox
  have HIN := Lib.hid hin
  have HKY := Lib.hid (key_any key (w.alloc (.cells #[.int .u8 what, .int .u8 key, .slice Av n cv] 80)) hin.key)
  clear hin hbox
  go_enter Try.func32, Try.ntmps32
  go_wp2_with fail
  refine HKY.out.mono ?_
  rintro e w1 ⟨rfl, hb1⟩
  have hat : DoesAt A u0 u c p q M s m key Av n cv val w what w1 := by
    have hb := HB0.out.trans (hb1.mono (by simp))
    refine ⟨HIN.out.below hb, (hb1.block _ (by simp)).trans HBX.out, fun hm => absurd (HIN.out.cap _ hm) (Nat.lt_irrefl _), fun e => ?_, hb⟩
    have := HIN.out.md.lt
    omega
  have HAT := Lib.hid hat
  have hcb := fun j => cell_of_row w1 w.heap.size j _ _ _ hat.box
  have hby := hat.inp.by.1
  clear hat hb1 HKY
  obtain ⟨nv, wv, hr, hnq, hnow, hwas, ⟨nA, nn, nc, rfl⟩, ⟨wA, wn, wc, rfl⟩⟩ := HAT.out.inp.md.row (b := true) (HAT.out.inp.kept.rel.opn.trans ho)
  have hcq := fun j => cell_of_row w1 q j _ _ _ hr
  have hfq := frozen_row hr
  have HR := Lib.hid hr
  have HNQ := Lib.hid hnq
  have HNOW := Lib.hid hnow
  have HWAS := Lib.hid hwas
  clear hr hnq hnow hwas
  go_wp2_with (refine wpList_str_by rfl _ rfl Av n cv rfl hby ?_)
  refine (compactS_open p M s _ HAT.out.inp.st ho).mono ?_
  rintro e w2 ⟨rfl, rfl⟩
  go_wp2
  go_ret
  exact ⟨rfl, M, s, m, HAT.out.inp.st, HAT.out.inp.md, HAT.out.inp.kept.more (Nat.le_add_right _ _), .same, (Step.of_below HAT.out.below).or q⟩
set_option maxHeartbeats 4000000 in
theorem does_cmpC (A u0 u c : Nat) (p q : Nat) (M : Nat → Prop) (s : J.St) (m : LM) (what key : Nat) (Av : Option Addr) (n cv : Nat) (val : J.B) (w : World) (hin : DoesIn A u0 u c p q M s m key Av n cv val w) (hw : (what : Int).tmod 8 = 7) (hk : (key : Int).tmod 2 = 1) (ho : s.opn = false) :
    Calls Try.prog 32 #[.pointer (some ⟨p, 0, none⟩), .pointer (some ⟨q, 0, none⟩), actV what key Av n cv] w (DoesRes A u0 (u + c) p q M s m w) := by
  have hbox := heap_alloc_new w (.cells #[.int .u8 what, .int .u8 key, .slice Av n cv] 80)
  have HB0 := Lib.hid ((Below.refl _ w).alloc (Nat.le_refl _) (.cells #[.int .u8 what, .int .u8 key, .slice Av n cv] 80))
  have hcb := fun j => cell_of_row _ w.heap.size j _ _ _ hbox
  have HBX := Lib.hid hbox
  have HIN := Lib.hid hin
  have HKY := Lib.hid (key_any key (w.alloc (.cells #[.int .u8 what, .int .u8 key, .slice Av n cv] 80)) hin.key)
  clear hin hbox
  go_enter Try.func32, Try.ntmps32
  go_wp2_with fail
  refine HKY.out.mono ?_
  rintro e w1 ⟨rfl, hb1⟩
  have hat : DoesAt A u0 u c p q M s m key Av n cv val w what w1 := by
    have hb := HB0.out.trans (hb1.mono (by simp))
    refine ⟨HIN.out.below hb, (hb1.block _ (by simp)).trans HBX.out, fun hm => absurd (HIN.out.cap _ hm) (Nat.lt_irrefl _), fun e => ?_, hb⟩
    have := HIN.out.md.lt
    omega
  have HAT := Lib.hid hat
  have hcb := fun j => cell_of_row w1 w.heap.size j _ _ _ hat.box
  have hby := hat.inp.by.1
  clear hat hb1 HKY
  obtain ⟨nv, wv, hr, hnq, hnow, hwas, ⟨nA, nn, nc, rfl⟩, ⟨wA, wn, wc, rfl⟩⟩ := HAT.out.inp.md.row (b := false) (HAT.out.inp.kept.rel.opn.trans ho)
  have hcq := fun j => cell_of_row w1 q j _ _ _ hr
  have hfq := frozen_row hr
  have HR := Lib.hid hr
  have HNQ := Lib.hid hnq
  have HNOW := Lib.hid hnow
  have HWAS := Lib.hid hwas
  clear hr hnq hnow hwas
  go_wp2_with (refine wpList_str_by rfl _ rfl Av n cv rfl hby ?_)
  obtain ⟨e1, e2, e3⟩ := J.kept_compact HAT.out.inp.kept HAT.out.inp.lim HAT.out.inp.ok ho HAT.out.inp.c
  have hp := compactS_any p M s w1 HAT.out.inp.st ho (J.csmall_now HAT.out.inp.kept (by have := HAT.out.inp.lim.u; omega))
  rw [e1] at hp
  have E2 := Lib.hid e2
  have E3 := Lib.hid e3
  clear e1 e2 e3
  refine hp.mono ?_
  clear hp
  rintro e w2 ⟨rfl, M', hst, hstep⟩
  have HST := Lib.hid hst
  have HSTEP := Lib.hid hstep
  clear hst hstep
  go_wp2
  go_ret
  exact ⟨rfl, M', _, m, HST.out, HAT.out.inp.md.step HSTEP.out, E2.out, E3.out, ((Step.of_below HAT.out.below).or q).trans (HSTEP.out.or q)⟩
end Go.Proofs.Ythjjbaiijelhnaa
