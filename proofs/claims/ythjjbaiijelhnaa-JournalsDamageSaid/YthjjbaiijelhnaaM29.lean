import Derived.Test.YthjjbaiijelhnaaM27
set_option linter.unusedVariables false
set_option linter.unusedSimpArgs false
/- Law 30: does, some of its acts. -/
namespace Go.Proofs.Ythjjbaiijelhnaa
open Go.RowKit Go.Lib Go.Maps Go.WideMaps Go.Sort
set_option maxRecDepth 100000
set_option maxHeartbeats 4000000 in
theorem does_putO3 (A u0 u c : Nat) (p q : Nat) (M : Nat → Prop) (s : J.St) (m : LM) (what key : Nat) (Av : Option Addr) (n cv : Nat) (val : J.B) (w : World) (hin : DoesIn A u0 u c p q M s m key Av n cv val w) (hw : (what : Int).tmod 8 = 3) (ho : s.opn = true) :
    Calls Try.prog 32 #[.pointer (some ⟨p, 0, none⟩), .pointer (some ⟨q, 0, none⟩), actV what key Av n cv] w (DoesRes A u0 (u + c) p q M s m w) := by
  have hbox := heap_alloc_new w (.cells #[.int .u8 what, .int .u8 key, .slice Av n cv] 80)
  have HB0 := Lib.hid ((Below.refl _ w).alloc (Nat.le_refl _) (.cells #[.int .u8 what, .int .u8 key, .slice Av n cv] 80))
  have hcb := fun j => cell_of_row _ w.heap.size j _ _ _ hbox
  have HBX := Lib.hid hbox
  have HIN := Lib.hid hin
  have HKY := Lib.hid (key_any key (w.alloc (.cells #[.int .u8 what, .int .u8 key, .slice Av n cv] 80)) hin.key)
  clear hin hbox
  go_enter Try.func32, Try.ntmps32
  go_wp2_with fail
  refine HKY.out.mono ?_
  rintro e w1 ⟨rfl, hb1⟩
  have hat : DoesAt A u0 u c p q M s m key Av n cv val w what w1 := by
    have hb := HB0.out.trans (hb1.mono (by simp))
    refine ⟨HIN.out.below hb, (hb1.block _ (by simp)).trans HBX.out, fun hm => absurd (HIN.out.cap _ hm) (Nat.lt_irrefl _), fun e => ?_, hb⟩
    have := HIN.out.md.lt
    omega
  have HAT := Lib.hid hat
  have hcb := fun j => cell_of_row w1 w.heap.size j _ _ _ hat.box
  have hby := hat.inp.by.1
  clear hat hb1 HKY
  obtain ⟨nv, wv, hr, hnq, hnow, hwas, ⟨nA, nn, nc, rfl⟩, ⟨wA, wn, wc, rfl⟩⟩ := HAT.out.inp.md.row (b := true) (HAT.out.inp.kept.rel.opn.trans ho)
  have hcq := fun j => cell_of_row w1 q j _ _ _ hr
  have hfq := frozen_row hr
  have HR := Lib.hid hr
  have HNQ := Lib.hid hnq
  have HNOW := Lib.hid hnow
  have HWAS := Lib.hid hwas
  clear hr hnq hnow hwas
  go_wp2_with (refine wpList_str_by rfl _ rfl Av n cv rfl hby ?_)
  have hlen : m.now.length ≤ 8 := by rw [HAT.out.inp.kept.rel.now]; exact J.asc_len8 HAT.out.inp.kept.inv.asc HAT.out.inp.kept.bud.kn
  refine (lput_any (.slice nA nn nc) m.now (keyL key) val w1 (HNOW.out.weak (fun k h => h.elim)) (by omega)).mono ?_
  rintro e w2 ⟨v', rfl, hown, hb2⟩
  have hprs : Prs w2 M v' (J.ins m.now (keyL key) val) := own_prs hown HAT.out.inp.cap
  obtain ⟨A', n', c', rfl⟩ := hprs.shape
  have hin2 := HAT.out.inp.below hb2
  have hwas2 := HWAS.out.step (M' := M) (Step.of_below hb2)
  have hr2 := (hb2.block q (Array.getElem?_eq_some_iff.1 HR.out).1).trans HR.out
  have hbx2 := (hb2.block w.heap.size (Array.getElem?_eq_some_iff.1 HAT.out.box).1).trans HAT.out.box
  have hcq := fun j => cell_of_row w2 q j _ _ _ hr2
  have hfq := frozen_row hr2
  have hcb2 := fun j => cell_of_row w2 w.heap.size j _ _ _ hbx2
  have hnbq : w.heap.size ≠ q := HAT.out.nq
  have hg := grown_set (World.grownBy.refl w2 (some q)) 0 (.slice A' n' c')
  have hrow := blk_set hr2 0 (.slice A' n' c')
  obtain ⟨hm2, hoth⟩ := hin2.md.turn hg hrow hprs hwas2
  have HM2 := Lib.hid hm2
  have HG := Lib.hid hg
  have HST0 := Lib.hid (hin2.st.oth hoth)
  have HVL := Lib.hid (hin2.val.oth hoth)
  have HB2 := Lib.hid hb2
  clear hown hb2 hprs hin2 hwas2 hr2 hbx2 hg hrow hm2 hoth hcb hlen
  go_wp2_with fail
  have hadd : J.add s ⟨keyL key, val, false⟩ = (J.apply { s with changes := s.changes ++ [⟨keyL key, val, false⟩], size := s.size + (⟨keyL key, val, false⟩ : J.Chg).len } ⟨keyL key, val, false⟩, 0) := by
    unfold J.add
    rw [if_neg (J.room HAT.out.inp.kept HAT.out.inp.lim ho _ (by have := (keyL_ok key).2; have := HAT.out.inp.n8; have := HAT.out.inp.by.2; have := HAT.out.inp.c; unfold J.Chg.len; simp only [Bool.false_eq_true, if_false]; omega))]
  have hp := put_ok p M s ⟨(keyL key).toArray⟩ (.slice Av n cv) val _ HST0.out ho (enc_key _ (keyL_ok key).1) (by rw [enc_size]; exact (keyL_ok key).2) (by have := HAT.out.inp.by.2; have := HAT.out.inp.n; omega) M HVL.out
  rw [show (⟨(keyL key).toArray⟩ : ByteArray).data.toList = keyL key from rfl, hadd] at hp
  refine hp.mono ?_
  clear hp
  rintro e w3 ⟨rfl, M', hst, hstep⟩
  have HST := Lib.hid hst
  have HSTEP := Lib.hid hstep
  clear hst hstep
  go_wp2
  go_ret
  have hk := J.kept_add HAT.out.inp.kept ho HAT.out.inp.ok ⟨keyL key, val, false⟩ key rfl (by have := HAT.out.inp.by.2; have := HAT.out.inp.n8; show val.length ≤ _; omega) (by have := HAT.out.inp.by.2; have := HAT.out.inp.n; show val.length ≤ _; omega) HAT.out.inp.c (fun e => by cases e)
  have hmm := HM2.out.step HSTEP.out
  exact ⟨rfl, M', _, ⟨J.ins m.now (keyL key) val, m.was, m.opn, m.commits⟩, HST.out, (by rw [HAT.out.inp.kept.rel.opn, ho]; exact hmm), hk.1, hk.2, (((Step.of_below (HAT.out.below.trans (HB2.out.mono HAT.out.below.size))).or q).trans (set_step HG.out)).trans (HSTEP.out.or q)⟩
set_option maxHeartbeats 4000000 in
theorem does_delC (A u0 u c : Nat) (p q : Nat) (M : Nat → Prop) (s : J.St) (m : LM) (what key : Nat) (Av : Option Addr) (n cv : Nat) (val : J.B) (w : World) (hin : DoesIn A u0 u c p q M s m key Av n cv val w) (hw : (what : Int).tmod 8 = 4) (ho : s.opn = false) :
    Calls Try.prog 32 #[.pointer (some ⟨p, 0, none⟩), .pointer (some ⟨q, 0, none⟩), actV what key Av n cv] w (DoesRes A u0 (u + c) p q M s m w) := by
  have hbox := heap_alloc_new w (.cells #[.int .u8 what, .int .u8 key, .slice Av n cv] 80)
  have HB0 := Lib.hid ((Below.refl _ w).alloc (Nat.le_refl _) (.cells #[.int .u8 what, .int .u8 key, .slice Av n cv] 80))
  have hcb := fun j => cell_of_row _ w.heap.size j _ _ _ hbox
  have HBX := Lib.hid hbox
  have HIN := Lib.hid hin
  have HKY := Lib.hid (key_any key (w.alloc (.cells #[.int .u8 what, .int .u8 key, .slice Av n cv] 80)) hin.key)
  clear hin hbox
  go_enter Try.func32, Try.ntmps32
  go_wp2_with fail
  refine HKY.out.mono ?_
  rintro e w1 ⟨rfl, hb1⟩
  have hat : DoesAt A u0 u c p q M s m key Av n cv val w what w1 := by
    have hb := HB0.out.trans (hb1.mono (by simp))
    refine ⟨HIN.out.below hb, (hb1.block _ (by simp)).trans HBX.out, fun hm => absurd (HIN.out.cap _ hm) (Nat.lt_irrefl _), fun e => ?_, hb⟩
    have := HIN.out.md.lt
    omega
  have HAT := Lib.hid hat
  have hcb := fun j => cell_of_row w1 w.heap.size j _ _ _ hat.box
  have hby := hat.inp.by.1
  clear hat hb1 HKY
  obtain ⟨nv, wv, hr, hnq, hnow, hwas, ⟨nA, nn, nc, rfl⟩, ⟨wA, wn, wc, rfl⟩⟩ := HAT.out.inp.md.row (b := false) (HAT.out.inp.kept.rel.opn.trans ho)
  have hcq := fun j => cell_of_row w1 q j _ _ _ hr
  have hfq := frozen_row hr
  have HR := Lib.hid hr
  have HNQ := Lib.hid hnq
  have HNOW := Lib.hid hnow
  have HWAS := Lib.hid hwas
  clear hr hnq hnow hwas
  go_wp2_with (refine wpList_str_by rfl _ rfl Av n cv rfl hby ?_)
  have hd : J.delete s (keyL key) = (s, 6) := by unfold J.delete; rw [if_pos ho]
  have hp := delete_any p M s ⟨(keyL key).toArray⟩ w1 HAT.out.inp.st (by rw [enc_size]; have := (keyL_ok key).2; omega)
  rw [show (⟨(keyL key).toArray⟩ : ByteArray).data.toList = keyL key from rfl, hd] at hp
  refine hp.mono ?_
  clear hp
  rintro e w2 ⟨rfl, M', hst, hstep⟩
  go_wp2
  go_ret
  exact ⟨rfl, M', s, m, hst, HAT.out.inp.md.step hstep, HAT.out.inp.kept.more (Nat.le_add_right _ _), .same, ((Step.of_below HAT.out.below).or q).trans (hstep.or q)⟩
set_option maxHeartbeats 4000000 in
theorem does_delN (A u0 u c : Nat) (p q : Nat) (M : Nat → Prop) (s : J.St) (m : LM) (what key : Nat) (Av : Option Addr) (n cv : Nat) (val : J.B) (w : World) (hin : DoesIn A u0 u c p q M s m key Av n cv val w) (hw : (what : Int).tmod 8 = 4) (ho : s.opn = true) (hlk : J.look s.now (keyL key) = none) :
    Calls Try.prog 32 #[.pointer (some ⟨p, 0, none⟩), .pointer (some ⟨q, 0, none⟩), actV what key Av n cv] w (DoesRes A u0 (u + c) p q M s m w) := by
  have hbox := heap_alloc_new w (.cells #[.int .u8 what, .int .u8 key, .slice Av n cv] 80)
  have HB0 := Lib.hid ((Below.refl _ w).alloc (Nat.le_refl _) (.cells #[.int .u8 what, .int .u8 key, .slice Av n cv] 80))
  have hcb := fun j => cell_of_row _ w.heap.size j _ _ _ hbox
  have HBX := Lib.hid hbox
  have HIN := Lib.hid hin
  have HKY := Lib.hid (key_any key (w.alloc (.cells #[.int .u8 what, .int .u8 key, .slice Av n cv] 80)) hin.key)
  clear hin hbox
  go_enter Try.func32, Try.ntmps32
  go_wp2_with fail
  refine HKY.out.mono ?_
  rintro e w1 ⟨rfl, hb1⟩
  have hat : DoesAt A u0 u c p q M s m key Av n cv val w what w1 := by
    have hb := HB0.out.trans (hb1.mono (by simp))
    refine ⟨HIN.out.below hb, (hb1.block _ (by simp)).trans HBX.out, fun hm => absurd (HIN.out.cap _ hm) (Nat.lt_irrefl _), fun e => ?_, hb⟩
    have := HIN.out.md.lt
    omega
  have HAT := Lib.hid hat
  have hcb := fun j => cell_of_row w1 w.heap.size j _ _ _ hat.box
  have hby := hat.inp.by.1
  clear hat hb1 HKY
  obtain ⟨nv, wv, hr, hnq, hnow, hwas, ⟨nA, nn, nc, rfl⟩, ⟨wA, wn, wc, rfl⟩⟩ := HAT.out.inp.md.row (b := true) (HAT.out.inp.kept.rel.opn.trans ho)
  have hcq := fun j => cell_of_row w1 q j _ _ _ hr
  have hfq := frozen_row hr
  have HR := Lib.hid hr
  have HNQ := Lib.hid hnq
  have HNOW := Lib.hid hnow
  have HWAS := Lib.hid hwas
  clear hr hnq hnow hwas
  go_wp2_with (refine wpList_str_by rfl _ rfl Av n cv rfl hby ?_)
  have hlen : m.now.length ≤ 8 := by rw [HAT.out.inp.kept.rel.now]; exact J.asc_len8 HAT.out.inp.kept.inv.asc HAT.out.inp.kept.bud.kn
  have hh := has_any (.slice nA nn nc) m.now (keyL key) w1 (HNOW.out.weak (fun k h => h.elim)) (by omega)
  rw [HAT.out.inp.kept.rel.now, hlk] at hh
  refine hh.mono ?_
  clear hh
  rintro e w2 ⟨rfl, hb2⟩
  have hin2 := HAT.out.inp.below hb2
  have HB2 := Lib.hid hb2
  have HIN2 := Lib.hid hin2
  clear hin2 hb2 hlen
  go_wp2_with fail
  have hd : J.delete s (keyL key) = (s, 7) := by unfold J.delete; rw [if_neg (by rw [ho]; simp), if_pos hlk]
  have hp := delete_any p M s ⟨(keyL key).toArray⟩ w2 HIN2.out.st (by rw [enc_size]; have := (keyL_ok key).2; omega)
  rw [show (⟨(keyL key).toArray⟩ : ByteArray).data.toList = keyL key from rfl, hd] at hp
  refine hp.mono ?_
  clear hp
  rintro e w3 ⟨rfl, M', hst, hstep⟩
  go_wp2
  go_ret
  exact ⟨rfl, M', s, m, hst, HIN2.out.md.step hstep, HAT.out.inp.kept.more (Nat.le_add_right _ _), .same, ((Step.of_below (HAT.out.below.trans (HB2.out.mono HAT.out.below.size))).or q).trans (hstep.or q)⟩
set_option maxHeartbeats 4000000 in
theorem does_delO (A u0 u c : Nat) (p q : Nat) (M : Nat → Prop) (s : J.St) (m : LM) (what key : Nat) (Av : Option Addr) (n cv : Nat) (val : J.B) (w : World) (hin : DoesIn A u0 u c p q M s m key Av n cv val w) (hw : (what : Int).tmod 8 = 4) (ho : s.opn = true) (hlk : ∃ l, J.look s.now (keyL key) = some l) :
    Calls Try.prog 32 #[.pointer (some ⟨p, 0, none⟩), .pointer (some ⟨q, 0, none⟩), actV what key Av n cv] w (DoesRes A u0 (u + c) p q M s m w) := by
  have hbox := heap_alloc_new w (.cells #[.int .u8 what, .int .u8 key, .slice Av n cv] 80)
  have HB0 := Lib.hid ((Below.refl _ w).alloc (Nat.le_refl _) (.cells #[.int .u8 what, .int .u8 key, .slice Av n cv] 80))
  have hcb := fun j => cell_of_row _ w.heap.size j _ _ _ hbox
  have HBX := Lib.hid hbox
  have HIN := Lib.hid hin
  have HKY := Lib.hid (key_any key (w.alloc (.cells #[.int .u8 what, .int .u8 key, .slice Av n cv] 80)) hin.key)
  clear hin hbox
  go_enter Try.func32, Try.ntmps32
  go_wp2_with fail
  refine HKY.out.mono ?_
  rintro e w1 ⟨rfl, hb1⟩
  have hat : DoesAt A u0 u c p q M s m key Av n cv val w what w1 := by
    have hb := HB0.out.trans (hb1.mono (by simp))
    refine ⟨HIN.out.below hb, (hb1.block _ (by simp)).trans HBX.out, fun hm => absurd (HIN.out.cap _ hm) (Nat.lt_irrefl _), fun e => ?_, hb⟩
    have := HIN.out.md.lt
    omega
  have HAT := Lib.hid hat
  have hcb := fun j => cell_of_row w1 w.heap.size j _ _ _ hat.box
  have hby := hat.inp.by.1
  clear hat hb1 HKY
  obtain ⟨nv, wv, hr, hnq, hnow, hwas, ⟨nA, nn, nc, rfl⟩, ⟨wA, wn, wc, rfl⟩⟩ := HAT.out.inp.md.row (b := true) (HAT.out.inp.kept.rel.opn.trans ho)
  have hcq := fun j => cell_of_row w1 q j _ _ _ hr
  have hfq := frozen_row hr
  have HR := Lib.hid hr
  have HNQ := Lib.hid hnq
  have HNOW := Lib.hid hnow
  have HWAS := Lib.hid hwas
  clear hr hnq hnow hwas
  go_wp2_with (refine wpList_str_by rfl _ rfl Av n cv rfl hby ?_)
  obtain ⟨old, hlk⟩ := hlk
  have hlen : m.now.length ≤ 8 := by rw [HAT.out.inp.kept.rel.now]; exact J.asc_len8 HAT.out.inp.kept.inv.asc HAT.out.inp.kept.bud.kn
  have hh := has_any (.slice nA nn nc) m.now (keyL key) w1 (HNOW.out.weak (fun k h => h.elim)) (by omega)
  rw [HAT.out.inp.kept.rel.now, hlk] at hh
  refine hh.mono ?_
  clear hh
  rintro e w2 ⟨rfl, hb2⟩
  have hin2 := HAT.out.inp.below hb2
  have hnow2 := HNOW.out.step (M' := M) (Step.of_below hb2)
  have hwas2 := HWAS.out.step (M' := M) (Step.of_below hb2)
  have hr2 := (hb2.block q (Array.getElem?_eq_some_iff.1 HR.out).1).trans HR.out
  have hcq := fun j => cell_of_row w2 q j _ _ _ hr2
  have HR2 := Lib.hid hr2
  have HB2 := Lib.hid hb2
  have HIN2 := Lib.hid hin2
  have HNOW2 := Lib.hid hnow2
  have HWAS2 := Lib.hid hwas2
  clear hin2 hb2 hnow2 hwas2 hr2
  go_wp2_with fail
  refine (without_any (.slice nA nn nc) m.now (keyL key) w2 (HNOW2.out.weak (fun k h => h.elim)) (by omega)).mono ?_
  rintro e w3 ⟨v', rfl, hown, hb3⟩
  have hprs : Prs w3 M v' (J.del m.now (keyL key)) := own_prs hown HIN2.out.cap
  obtain ⟨A', n', c', rfl⟩ := hprs.shape
  have hin3 := HIN2.out.below hb3
  have hwas3 := HWAS2.out.step (M' := M) (Step.of_below hb3)
  have hr3 := (hb3.block q (Array.getElem?_eq_some_iff.1 HR2.out).1).trans HR2.out
  have hcq := fun j => cell_of_row w3 q j _ _ _ hr3
  have hfq := frozen_row hr3
  have hg := grown_set (World.grownBy.refl w3 (some q)) 0 (.slice A' n' c')
  have hrow := blk_set hr3 0 (.slice A' n' c')
  obtain ⟨hm2, hoth⟩ := hin3.md.turn hg hrow hprs hwas3
  have HM2 := Lib.hid hm2
  have HG := Lib.hid hg
  have HST0 := Lib.hid (hin3.st.oth hoth)
  have HB3 := Lib.hid (HB2.out.trans (hb3.mono HB2.out.size))
  clear hown hb3 hprs hin3 hwas3 hr3 hg hrow hm2 hoth hlen
  go_wp2_with fail
  have hadd : J.delete s (keyL key) = (J.apply { s with changes := s.changes ++ [⟨keyL key, [], true⟩], size := s.size + (⟨keyL key, [], true⟩ : J.Chg).len } ⟨keyL key, [], true⟩, 0) := by
    unfold J.delete
    rw [if_neg (by rw [ho]; simp), if_neg (by rw [hlk]; simp)]
    unfold J.add
    rw [if_neg (J.room HAT.out.inp.kept HAT.out.inp.lim ho _ (by have := (keyL_ok key).2; have := HAT.out.inp.c; unfold J.Chg.len; simp only [if_true]; omega))]
  have hp := delete_any p M s ⟨(keyL key).toArray⟩ _ HST0.out (by rw [enc_size]; have := (keyL_ok key).2; omega)
  rw [show (⟨(keyL key).toArray⟩ : ByteArray).data.toList = keyL key from rfl, hadd] at hp
  refine hp.mono ?_
  clear hp
  rintro e w4 ⟨rfl, M', hst, hstep⟩
  have HST := Lib.hid hst
  have HSTEP := Lib.hid hstep
  clear hst hstep
  go_wp2
  go_ret
  have hk := J.kept_add HAT.out.inp.kept ho HAT.out.inp.ok ⟨keyL key, [], true⟩ key rfl (Nat.zero_le _) (Nat.zero_le _) HAT.out.inp.c (fun _ => ⟨rfl, by rw [hlk]; simp⟩)
  have hmm := HM2.out.step HSTEP.out
  exact ⟨rfl, M', _, ⟨J.del m.now (keyL key), m.was, m.opn, m.commits⟩, HST.out, (by rw [HAT.out.inp.kept.rel.opn, ho]; exact hmm), hk.1, hk.2, (((Step.of_below (HAT.out.below.trans (HB3.out.mono HAT.out.below.size))).or q).trans (set_step HG.out)).trans (HSTEP.out.or q)⟩
set_option maxHeartbeats 4000000 in
theorem does_comC5 (A u0 u c : Nat) (p q : Nat) (M : Nat → Prop) (s : J.St) (m : LM) (what key : Nat) (Av : Option Addr) (n cv : Nat) (val : J.B) (w : World) (hin : DoesIn A u0 u c p q M s m key Av n cv val w) (hw : (what : Int).tmod 8 = 5) (ho : s.opn = false) :
    Calls Try.prog 32 #[.pointer (some ⟨p, 0, none⟩), .pointer (some ⟨q, 0, none⟩), actV what key Av n cv] w (DoesRes A u0 (u + c) p q M s m w) := by
  have hbox := heap_alloc_new w (.cells #[.int .u8 what, .int .u8 key, .slice Av n cv] 80)
  have HB0 := Lib.hid ((Below.refl _ w).alloc (Nat.le_refl _) (.cells #[.int .u8 what, .int .u8 key, .slice Av n cv] 80))
  have hcb := fun j => cell_of_row _ w.heap.size j _ _ _ hbox
  have HBX := Lib.hid hbox
  have HIN := Lib.hid hin
  have HKY := Lib.hid (key_any key (w.alloc (.cells #[.int .u8 what, .int .u8 key, .slice Av n cv] 80)) hin.key)
  clear hin hbox
  go_enter Try.func32, Try.ntmps32
  go_wp2_with fail
  refine HKY.out.mono ?_
  rintro e w1 ⟨rfl, hb1⟩
  have hat : DoesAt A u0 u c p q M s m key Av n cv val w what w1 := by
    have hb := HB0.out.trans (hb1.mono (by simp))
    refine ⟨HIN.out.below hb, (hb1.block _ (by simp)).trans HBX.out, fun hm => absurd (HIN.out.cap _ hm) (Nat.lt_irrefl _), fun e => ?_, hb⟩
    have := HIN.out.md.lt
    omega
  have HAT := Lib.hid hat
  have hcb := fun j => cell_of_row w1 w.heap.size j _ _ _ hat.box
  have hby := hat.inp.by.1
  clear hat hb1 HKY
  obtain ⟨nv, wv, hr, hnq, hnow, hwas, ⟨nA, nn, nc, rfl⟩, ⟨wA, wn, wc, rfl⟩⟩ := HAT.out.inp.md.row (b := false) (HAT.out.inp.kept.rel.opn.trans ho)
  have hcq := fun j => cell_of_row w1 q j _ _ _ hr
  have hfq := frozen_row hr
  have HR := Lib.hid hr
  have HNQ := Lib.hid hnq
  have HNOW := Lib.hid hnow
  have HWAS := Lib.hid hwas
  clear hr hnq hnow hwas
  go_wp2_with (refine wpList_str_by rfl _ rfl Av n cv rfl hby ?_)
  refine (commit_shut p M s _ HAT.out.inp.st ho).mono ?_
  rintro e w2 ⟨rfl, rfl⟩
  go_wp2
  go_ret
  exact ⟨rfl, M, s, m, HAT.out.inp.st, HAT.out.inp.md, HAT.out.inp.kept.more (Nat.le_add_right _ _), .same, (Step.of_below HAT.out.below).or q⟩
set_option maxHeartbeats 4000000 in
theorem does_comO5 (A u0 u c : Nat) (p q : Nat) (M : Nat → Prop) (s : J.St) (m : LM) (what key : Nat) (Av : Option Addr) (n cv : Nat) (val : J.B) (w : World) (hin : DoesIn A u0 u c p q M s m key Av n cv val w) (hw : (what : Int).tmod 8 = 5) (ho : s.opn = true) :
    Calls Try.prog 32 #[.pointer (some ⟨p, 0, none⟩), .pointer (some ⟨q, 0, none⟩), actV what key Av n cv] w (DoesRes A u0 (u + c) p q M s m w) := by
  have hbox := heap_alloc_new w (.cells #[.int .u8 what, .int .u8 key, .slice Av n cv] 80)
  have HB0 := Lib.hid ((Below.refl _ w).alloc (Nat.le_refl _) (.cells #[.int .u8 what, .int .u8 key, .slice Av n cv] 80))
  have hcb := fun j => cell_of_row _ w.heap.size j _ _ _ hbox
  have HBX := Lib.hid hbox
  have HIN := Lib.hid hin
  have HKY := Lib.hid (key_any key (w.alloc (.cells #[.int .u8 what, .int .u8 key, .slice Av n cv] 80)) hin.key)
  clear hin hbox
  go_enter Try.func32, Try.ntmps32
  go_wp2_with fail
  refine HKY.out.mono ?_
  rintro e w1 ⟨rfl, hb1⟩
  have hat : DoesAt A u0 u c p q M s m key Av n cv val w what w1 := by
    have hb := HB0.out.trans (hb1.mono (by simp))
    refine ⟨HIN.out.below hb, (hb1.block _ (by simp)).trans HBX.out, fun hm => absurd (HIN.out.cap _ hm) (Nat.lt_irrefl _), fun e => ?_, hb⟩
    have := HIN.out.md.lt
    omega
  have HAT := Lib.hid hat
  have hcb := fun j => cell_of_row w1 w.heap.size j _ _ _ hat.box
  have hby := hat.inp.by.1
  clear hat hb1 HKY
  obtain ⟨nv, wv, hr, hnq, hnow, hwas, ⟨nA, nn, nc, rfl⟩, ⟨wA, wn, wc, rfl⟩⟩ := HAT.out.inp.md.row (b := true) (HAT.out.inp.kept.rel.opn.trans ho)
  have hcq := fun j => cell_of_row w1 q j _ _ _ hr
  have hfq := frozen_row hr
  have HR := Lib.hid hr
  have HNQ := Lib.hid hnq
  have HNOW := Lib.hid hnow
  have HWAS := Lib.hid hwas
  clear hr hnq hnow hwas
  go_wp2_with (refine wpList_str_by rfl _ rfl Av n cv rfl hby ?_)
  obtain ⟨hf, hl2, hcomm⟩ := J.commit_goes HAT.out.inp.kept HAT.out.inp.lim HAT.out.inp.ok ho
  have hp := commit_anyfit p M s w1 HAT.out.inp.st ho (HAT.out.inp.kept.bud.sp ho) (J.csmall_was HAT.out.inp.kept (by have := HAT.out.inp.lim.u; omega) ho) (by have := HAT.out.inp.kept.bud.cm; have := HAT.out.inp.lim.u; omega) HAT.out.inp.ok.area hf
  rw [hcomm, ← HAT.out.inp.kept.rel.com] at hp
  refine hp.mono ?_
  clear hp hf hl2 hcomm
  rintro e w2 ⟨rfl, M', hst, hstep⟩
  have hcl : m.commits ≤ 540 := by have := HAT.out.inp.kept.bud.cm; have := HAT.out.inp.kept.rel.com; have := HAT.out.inp.lim.u; omega
  have hr2 := (hstep.block q (Array.getElem?_eq_some_iff.1 HR.out).1 HNQ.out).trans HR.out
  have hnow2 := HNOW.out.step hstep
  have hwas2 := HWAS.out.step hstep
  have hcq := fun j => cell_of_row w2 q j _ _ _ hr2
  have hfq := frozen_row hr2
  have hg := grown_set (grown_set (World.grownBy.refl w2 (some q)) 2 (.bool false)) 3 (.int .i64 ((m.commits : Int) + 1))
  have hrow := blk_set (blk_set hr2 2 (.bool false)) 3 (.int .i64 ((m.commits : Int) + 1))
  obtain ⟨hm2, hoth⟩ := (HAT.out.inp.md.step hstep).turn (n := m.commits + 1) hg hrow hnow2 hwas2
  have HM2 := Lib.hid hm2
  have HG := Lib.hid hg
  have HST0 := Lib.hid (hst.oth hoth)
  have HSTEP := Lib.hid hstep
  clear hst hstep hr2 hnow2 hwas2 hg hrow hm2 hoth
  go_wp2
  go_ret
  have hk := J.kept_commit HAT.out.inp.kept HAT.out.inp.lim HAT.out.inp.ok ho HAT.out.inp.c
  exact ⟨rfl, M', _, ⟨m.now, m.was, false, m.commits + 1⟩, HST0.out, HM2.out, hk.1, hk.2, (((Step.of_below HAT.out.below).or q).trans (HSTEP.out.or q)).trans (set_step HG.out)⟩
set_option maxHeartbeats 4000000 in
theorem does_comC6 (A u0 u c : Nat) (p q : Nat) (M : Nat → Prop) (s : J.St) (m : LM) (what key : Nat) (Av : Option Addr) (n cv : Nat) (val : J.B) (w : World) (hin : DoesIn A u0 u c p q M s m key Av n cv val w) (hw : (what : Int).tmod 8 = 6) (ho : s.opn = false) :
    Calls Try.prog 32 #[.pointer (some ⟨p, 0, none⟩), .pointer (some ⟨q, 0, none⟩), actV what key Av n cv] w (DoesRes A u0 (u + c) p q M s m w) := by
  have hbox := heap_alloc_new w (.cells #[.int .u8 what, .int .u8 key, .slice Av n cv] 80)
  have HB0 := Lib.hid ((Below.refl _ w).alloc (Nat.le_refl _) (.cells #[.int .u8 what, .int .u8 key, .slice Av n cv] 80))
  have hcb := fun j => cell_of_row _ w.heap.size j _ _ _ hbox
  have HBX := Lib.hid hbox
  have HIN := Lib.hid hin
  have HKY := Lib.hid (key_any key (w.alloc (.cells #[.int .u8 what, .int .u8 key, .slice Av n cv] 80)) hin.key)
  clear hin hbox
  go_enter Try.func32, Try.ntmps32
  go_wp2_with fail
  refine HKY.out.mono ?_
  rintro e w1 ⟨rfl, hb1⟩
  have hat : DoesAt A u0 u c p q M s m key Av n cv val w what w1 := by
    have hb := HB0.out.trans (hb1.mono (by simp))
    refine ⟨HIN.out.below hb, (hb1.block _ (by simp)).trans HBX.out, fun hm => absurd (HIN.out.cap _ hm) (Nat.lt_irrefl _), fun e => ?_, hb⟩
    have := HIN.out.md.lt
    omega
  have HAT := Lib.hid hat
  have hcb := fun j => cell_of_row w1 w.heap.size j _ _ _ hat.box
  have hby := hat.inp.by.1
  clear hat hb1 HKY
  obtain ⟨nv, wv, hr, hnq, hnow, hwas, ⟨nA, nn, nc, rfl⟩, ⟨wA, wn, wc, rfl⟩⟩ := HAT.out.inp.md.row (b := false) (HAT.out.inp.kept.rel.opn.trans ho)
  have hcq := fun j => cell_of_row w1 q j _ _ _ hr
  have hfq := frozen_row hr
  have HR := Lib.hid hr
  have HNQ := Lib.hid hnq
  have HNOW := Lib.hid hnow
  have HWAS := Lib.hid hwas
  clear hr hnq hnow hwas
  go_wp2_with (refine wpList_str_by rfl _ rfl Av n cv rfl hby ?_)
  refine (commit_shut p M s _ HAT.out.inp.st ho).mono ?_
  rintro e w2 ⟨rfl, rfl⟩
  go_wp2
  go_ret
  exact ⟨rfl, M, s, m, HAT.out.inp.st, HAT.out.inp.md, HAT.out.inp.kept.more (Nat.le_add_right _ _), .same, (Step.of_below HAT.out.below).or q⟩
end Go.Proofs.Ythjjbaiijelhnaa
