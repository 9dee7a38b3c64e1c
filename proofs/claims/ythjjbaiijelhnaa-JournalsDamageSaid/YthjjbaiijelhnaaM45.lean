import Derived.Test.YthjjbaiijelhnaaM32
import Derived.Test.YthjjbaiijelhnaaM44
import Derived.Test.YthjjbaiijelhnaaM42
import Derived.Deep.CutBlock
import Derived.Deep.CutRange
set_option linter.unusedVariables false
set_option linter.unusedSimpArgs false
/- Law 30: JournalsCut. -/
namespace Go.Proofs.Ythjjbaiijelhnaa
open Go.RowKit Go.Lib Go.Maps Go.WideMaps Go.Sort
set_option maxRecDepth 100000
theorem ActsAt.old {w0 w : World} {M : Nat → Prop} {A : Option Addr} {L : List J.Ac} (h : ActsAt w0 NoM A L) (hb : Below w0.heap.size w0 w) (hM : ∀ k, M k → w0.heap.size ≤ k) : ActsAt w M A L := by
  have h0 : ActsAt w0 M A L := fun hn => by
    obtain ⟨b, o, e, hb2, _, hc⟩ := h hn
    refine ⟨b, o, e, hb2, fun hm => by have := hM b hm; omega, fun i hi => ?_⟩
    obtain ⟨h1, h2, ⟨v, h3, h4⟩, h5, h6⟩ := hc i hi
    refine ⟨h1, h2, ⟨v, h3, ?_⟩, h5, h6⟩
    rcases h4 with h4 | ⟨b', o', c', e', g1, g2, g3⟩
    · exact .inl h4
    · refine .inr ⟨b', o', c', e', g1, g2, g3.1, fun hn => ?_⟩
      obtain ⟨x, y, e, q1, _, q3⟩ := g3.2 hn
      exact ⟨x, y, e, q1, fun hm => by have := hM x hm; omega, q3⟩
  exact h0.step (Step.of_below hb)
abbrev zcells (a b c d : Nat) : Array Value := #[.int .u16 a, .int .u16 b, .int .u16 c, .int .u16 d]
theorem cut_lives (A1 A2 : Option Addr) (c1 c2 : Nat) (L1 L2 : List J.Ac) (a b c d : Nat) (w : World) (ha1 : ActsAt w NoM A1 L1) (ha2 : ActsAt w NoM A2 L2) (hl1 : L1.length ≤ 9223372036854775807) (hl2 : L2.length ≤ 9223372036854775807) (hv1 : ∀ a ∈ L1, a.val.length ≤ 9223372036854775807) (hv2 : ∀ a ∈ L2, a.val.length ≤ 9223372036854775807) (h : 200 < J.units L1 ∨ 200 < J.units L2) :
    Calls Try.prog 6 #[.slice A1 L1.length c1, .slice A2 L2.length c2, .agg (zcells a b c d)] w fun e w' => e = .returned (.bool true) ∧ Below w.heap.size w w' := by
  have hb0 : Below w.heap.size w (w.alloc (.cells (zcells a b c d) 65)) := (Below.refl _ w).alloc (Nat.le_refl _) _
  have H1 := Lib.hid (big_any A1 c1 L1 200 (w.alloc (.cells (zcells a b c d) 65)) (ha1.step (Step.of_below hb0)) (by decide) hl1 hv1)
  have H2 := Lib.hid (big_any A2 c2 L2 200 (w.alloc (.cells (zcells a b c d) 65)) (ha2.step (Step.of_below hb0)) (by decide) hl2 hv2)
  have HL := Lib.hid (lives_any (w.alloc (.cells (zcells a b c d) 65)))
  have HB := Lib.hid hb0
  clear hb0 ha1 ha2 hl1 hl2 hv1 hv2
  by_cases h1 : 200 < J.units L1
  · have hd1 : decide (200 < J.units L1) = true := decide_eq_true h1
    rw [hd1] at H1
    clear hd1 h1 h H2
    go_enter Try.func6, Try.ntmps6
    go_wp2_with fail
    refine H1.out.mono ?_
    rintro e Y ⟨rfl, hY⟩
    subst hY
    go_wp2_with fail
    refine HL.out.mono ?_
    rintro e w1 ⟨rfl, hb⟩
    have HB1 := Lib.hid (HB.out.trans (hb.mono HB.out.size))
    clear hb
    go_wp2
    go_ret
    exact ⟨rfl, HB1.out⟩
  · have hd1 : decide (200 < J.units L1) = false := decide_eq_false h1
    have hd2 : decide (200 < J.units L2) = true := decide_eq_true (h.resolve_left h1)
    rw [hd1] at H1
    rw [hd2] at H2
    clear hd1 hd2 h1 h
    go_enter Try.func6, Try.ntmps6
    go_wp2_with fail
    refine H1.out.mono ?_
    rintro e Y ⟨rfl, hY⟩
    subst hY
    go_wp2_with fail
    refine H2.out.mono ?_
    rintro e Y ⟨rfl, hY⟩
    subst hY
    go_wp2_with fail
    refine HL.out.mono ?_
    rintro e w1 ⟨rfl, hb⟩
    have HB1 := Lib.hid (HB.out.trans (hb.mono HB.out.size))
    clear hb
    go_wp2
    go_ret
    exact ⟨rfl, HB1.out⟩
/-- The worlds at the beginning of a round. -/
structure CutI (w0 : World) (p q b u A : Nat) (s : J.St) (m : LM) (w : World) : Prop where
  st : ∃ M, StoreR w p M s ∧ ModR w q M m ∧ (∀ k, M k → w0.heap.size ≤ k ∧ k < w.heap.size) ∧ w0.heap.size ≤ q
  bel : Below w0.heap.size w0 w
  kept : J.Kept A u u s m
  hist : J.Hist True s b [m.now] [0]
  com : m.commits = b
  opn : s.opn = false
theorem RunC.at {w0 w wz : World} {p q : Nat} {Aa : Option Addr} {L : List J.Ac} {M0 : Nat → Prop} {sv av : Value} {vs : List Value} {M : Nat → Prop} {s : J.St} {m : LM} {states : List (List (J.B × J.B))} {at_ : List Nat} (h : RunC w0 p q Aa L M0 sv av vs M s m states at_ w)
    (hz : Below wz.heap.size wz w0) (hM0 : ∀ k, M0 k → wz.heap.size ≤ k) (hq : wz.heap.size ≤ q) : At wz p s w := by
  refine ⟨M, h.st, fun k hk => ⟨?_, h.cap k hk⟩, below_tr hz (h.step.below hz.size (fun k hk => hk.elim (hM0 k) (fun e => by omega)))⟩
  by_cases hw : k < w0.heap.size
  · rcases h.step.sub k hw (.inl hk) with h1 | h1
    · exact hM0 k h1
    · omega
  · have := hz.size; omega
/-- The image of a cut, as the law holds it. -/
theorem imgC_parts {w : World} {M : Nat → Prop} {v : Value} {m : J.Img} (h : ImgC w M v m) : ∃ A0 A1 A2 A3, v = imgW (.slice A0 m.h0.length m.h0.length) (.slice A1 m.h1.length m.h1.length) (.slice A2 m.a0.length m.a0.length) (.slice A3 m.a1.length m.a1.length) ∧
    Sl w NoM (.slice A0 m.h0.length m.h0.length) m.h0 ∧ Sl w NoM (.slice A1 m.h1.length m.h1.length) m.h1 ∧ Sl w NoM (.slice A2 m.a0.length m.a0.length) m.a0 ∧ Sl w NoM (.slice A3 m.a1.length m.a1.length) m.a1 := by
  obtain ⟨y0, y1, y2, y3, rfl, q0, q1, q2, q3⟩ := h
  obtain ⟨A0, rfl⟩ := q0.slice_
  obtain ⟨A1, rfl⟩ := q1.slice_
  obtain ⟨A2, rfl⟩ := q2.slice_
  obtain ⟨A3, rfl⟩ := q3.slice_
  exact ⟨A0, A1, A2, A3, rfl, q0.sl.weak (fun _ h => h.elim), q1.sl.weak (fun _ h => h.elim), q2.sl.weak (fun _ h => h.elim), q3.sl.weak (fun _ h => h.elim)⟩
theorem nums_at {w : World} {base n : Nat} {v : Value} {l : List Nat} (h : w.ownsRow base 3 1 v n (l.map num)) : ∃ A c, v = .slice A l.length c ∧ NumsAt w A l := by
  have hl : l.length = n := by have := h.1; simpa using this
  rcases h.2 with ⟨rfl, h0⟩ | ⟨g, cap, cur, rfl, hbase, hb, h1, h2⟩
  · obtain rfl : l = [] := List.eq_nil_of_length_eq_zero (by omega)
    exact ⟨none, 0, rfl, fun h => absurd h (by simp)⟩
  · refine ⟨_, cap, by rw [hl], fun _ => ⟨g, 0, rfl, (Array.getElem?_eq_some_iff.1 hb).1, fun i hi => ?_⟩⟩
    rw [Nat.zero_add, h.cellAt i (by omega)]
    simp [hi]
/-- What the contents behind a commit lie at. -/
theorem RunC.get {w0 w : World} {p q : Nat} {Aa : Option Addr} {L : List J.Ac} {M0 : Nat → Prop} {sv av : Value} {vs : List Value} {M : Nat → Prop} {s : J.St} {m : LM} {states : List (List (J.B × J.B))} {at_ : List Nat} (h : RunC w0 p q Aa L M0 sv av vs M s m states at_ w) (n : Nat) (l : List (J.B × J.B)) (hn : states[n]? = some l) :
    ∃ g c v, sv = .slice (some ⟨g, 0, none⟩) states.length c ∧ g < w.heap.size ∧ w.cell? ⟨g, n, none⟩ = some v ∧ PrsW w (fun k => M k ∨ k = q) v l ∧ n < states.length := by
  have hlt : n < states.length := (List.getElem?_eq_some_iff.1 hn).1
  have hv : vs[n]? = some (vs[n]'(by rw [h.vlen]; exact hlt)) := List.getElem?_eq_getElem _
  have h2 := h.sts n _ l hv hn
  rcases h.srow.2 with ⟨rfl, h0⟩ | ⟨g, cap, cur, e, hbase, hb, h1, _⟩
  · omega
  · subst e
    refine ⟨g, cap, _, rfl, (Array.getElem?_eq_some_iff.1 hb).1, ?_, h2, hlt⟩
    rw [h.srow.cellAt n (by omega)]; exact hv
theorem NumsAt.below {w w' : World} {A : Option Addr} {L : List Nat} (h : NumsAt w A L) (hb : Below w.heap.size w w') : NumsAt w' A L := fun hn => by
  obtain ⟨b, o, e, h1, h2⟩ := h hn
  exact ⟨b, o, e, Nat.lt_of_lt_of_le h1 hb.size, fun i hi => (hb.cell (p := ⟨b, o + i, none⟩) h1).trans (h2 i hi)⟩
theorem nums_at_of {w : World} {base n c : Nat} {A : Option Addr} {l : List Nat} (h : w.ownsRow base 3 1 (.slice A l.length c) n (l.map num)) : NumsAt w A l := by
  obtain ⟨A', c', e, hn⟩ := nums_at h
  injection e with e _ _
  subst e; exact hn
theorem cutI_next (w0 w5 w6 w7 : World) (p2 b u A : Nat) (M2 : Nat → Prop) (s2 : J.St) (now : List (J.B × J.B)) (An : Option Addr) (cn : Nat) (hbel : Below w0.heap.size w0 w5) (g1 : StoreR w6 p2 M2 s2) (g2 : ∀ k, M2 k → w5.heap.size ≤ k ∧ k < w6.heap.size) (hb56 : Below w5.heap.size w5 w6) (hb7 : Below w6.heap.size w6 w7)
    (hp6 : Prs w6 M2 (.slice An now.length cn) now) (hkr : J.Kept A u u s2 ⟨now, [], false, b⟩) (hh : J.Hist True s2 b [now] [0]) (ho : s2.opn = false) :
    CutI w0 p2 w7.heap.size b u A s2 ⟨now, [], false, b⟩ (w7.alloc (.cells #[.slice An now.length cn, .slice none 0 0, .bool false, .int .i64 (b : Nat)] 69)) := by
  have hb8 : Below w7.heap.size w7 (w7.alloc (.cells #[.slice An now.length cn, .slice none 0 0, .bool false, .int .i64 (b : Nat)] 69)) := (Below.refl _ w7).alloc (Nat.le_refl _) _
  have hb68 := hb7.trans (hb8.mono hb7.size)
  have hb58 := hb56.trans (hb68.mono hb56.size)
  refine ⟨⟨M2, g1.below hb68, ⟨.slice An now.length cn, .slice none 0 0, heap_alloc_new _ _, fun hm => ?_, hp6.step (Step.of_below hb68), Prs.nil_⟩, fun k hk => ⟨?_, Nat.lt_of_lt_of_le (g2 k hk).2 hb68.size⟩, ?_⟩, hbel.trans (hb58.mono hbel.size), hkr, hh, rfl, ho⟩
  · have h1 := (g2 _ hm).2
    have h2 := hb7.size
    omega
  · exact Nat.le_trans hbel.size (g2 k hk).1
  · exact Nat.le_trans hbel.size (Nat.le_trans hb56.size hb7.size)
set_option maxHeartbeats 6000000 in
theorem cut_small (A1 A2 : Option Addr) (c1 c2 : Nat) (L1 L2 : List J.Ac) (a b c d : Nat) (w : World) (ha1 : ActsAt w NoM A1 L1) (ha2 : ActsAt w NoM A2 L2) (h1 : J.units L1 ≤ 200) (h2 : J.units L2 ≤ 200) (hv1 : ∀ a ∈ L1, a.val.length ≤ 9223372036854775807) (hv2 : ∀ a ∈ L2, a.val.length ≤ 9223372036854775807)
    (ha : a < 65536) (hb : b < 65536) (hc : c < 65536) (hd : d < 65536) :
    Calls Try.prog 6 #[.slice A1 L1.length c1, .slice A2 L2.length c2, .agg (zcells a b c d)] w fun e w' => e = .returned (.bool true) ∧ Below w.heap.size w w' := by
  have hb0 : Below w.heap.size w (w.alloc (.cells (zcells a b c d) 65)) := (Below.refl _ w).alloc (Nat.le_refl _) _
  have hbg1 := big_any A1 c1 L1 200 (w.alloc (.cells (zcells a b c d) 65)) (ha1.step (Step.of_below hb0)) (by decide) (by have := J.units_len L1; omega) hv1
  have hbg2 := big_any A2 c2 L2 200 (w.alloc (.cells (zcells a b c d) 65)) (ha2.step (Step.of_below hb0)) (by decide) (by have := J.units_len L2; omega) hv2
  rw [decide_eq_false (by omega)] at hbg1 hbg2
  have HB1 := Lib.hid hbg1
  have HB2 := Lib.hid hbg2
  have HB0 := Lib.hid hb0
  have HA1 := Lib.hid (ha1.step (M' := NoM) (Step.of_below hb0))
  have HA2 := Lib.hid (ha2.step (M' := NoM) (Step.of_below hb0))
  have HZ := Lib.hid (heap_alloc_new w (.cells (zcells a b c d) 65))
  have HU1 := Lib.hid h1
  have HU2 := Lib.hid h2
  have hll1 : L1.length ≤ 200 := Nat.le_trans (J.units_len L1) h1
  have hll2 : L2.length ≤ 200 := Nat.le_trans (J.units_len L2) h2
  have HQ := Lib.hid (And.intro (And.intro ha hb) (And.intro hc hd))
  clear hb0 hbg1 hbg2 ha1 ha2 h1 h2 hv1 hv2 ha hb hc hd
  go_enter Try.func6, Try.ntmps6
  go_wp2_with fail
  refine HB1.out.mono ?_
  rintro e Y ⟨rfl, hY⟩
  subst hY
  go_wp2_with fail
  refine HB2.out.mono ?_
  rintro e Y ⟨rfl, hY⟩
  subst hY
  generalize hw0 : w.alloc (.cells (zcells a b c d) 65) = w0 at HB0 HB1 HB2 HA1 HA2 HZ ⊢
  have HBF := HB0
  clear hw0 HB1 HB2
  obtain ⟨zb, hzb⟩ : ∃ zb, w.heap.size = zb := ⟨_, rfl⟩
  rw [hzb] at HZ ⊢
  have HZB := Lib.hid hzb
  clear hzb HB0
  go_wp2_with fail
  refine (at_new w0 w0 (Below.refl _ _)).mono ?_
  rintro e w1 ⟨p0, rfl, hp0⟩
  have hi0 : CutI w0 p0 w1.heap.size 0 0 0 J.new J.lm0 (w1.alloc (.cells #[.slice none 0 0, .slice none 0 0, .bool false, .int .i64 0] 69)) := by
    obtain ⟨M, g1, g2, g3⟩ := hp0
    have hb : Below w1.heap.size w1 (w1.alloc (.cells #[.slice none 0 0, .slice none 0 0, .bool false, .int .i64 0] 69)) := (Below.refl _ w1).alloc (Nat.le_refl _) _
    exact ⟨⟨M, g1.below hb, ⟨.slice none 0 0, .slice none 0 0, heap_alloc_new _ _, fun hm => by have := (g2 _ hm).2; omega, Prs.nil_, Prs.nil_⟩, fun k hk => ⟨(g2 k hk).1, Nat.lt_of_lt_of_le (g2 k hk).2 hb.size⟩, g3.size⟩, g3.trans (hb.mono g3.size), J.kept_new 0, J.hist_new, rfl, rfl⟩
  have HI0 := Lib.hid hi0
  clear hi0 hp0
  go_wp2_with fail
  go_loopw [7, 8, 9, 10] (fun sp mp bp i wr => ∃ (k p q b u AA : Nat) (s : J.St) (m : LM), k ≤ 2 ∧ i = .int .i64 k ∧ sp = .pointer (some ⟨p, 0, none⟩) ∧ mp = .pointer (some ⟨q, 0, none⟩) ∧ bp = .int .i64 b ∧ u = 200 * k ∧ AA = 1400000 * k ∧ Hid (CutI w0 p q b u AA s m wr)) (fun _ _ _ i _ => 2 - (intOf i).toNat)
  case atStart => exact ⟨0, p0, w1.heap.size, 0, 0, 0, J.new, J.lm0, by omega, rfl, rfl, rfl, rfl, rfl, rfl, HI0⟩
  case round =>
    clear HI0
    obtain ⟨k, p, q, bb, u, AA, s, m, hk, rfl, rfl, rfl, rfl, hu, hAA, HI⟩ := hrel
    rcases (show k = 0 ∨ k = 1 ∨ k = 2 by omega) with rfl | rfl | rfl
    · go_wp2_with fail
      obtain ⟨M, hst, hmd, hM, hq⟩ := HI.out.st
      have hM1 : ∀ k, M k ∨ k = q → w0.heap.size ≤ k := fun k hk => hk.elim (fun h => (hM k h).1) (fun e => by rw [e]; exact hq)
      refine (run_any AA u u p q M s m A1 c1 L1 bb wr hst hmd (fun k h => (hM k h).2) HI.out.kept ⟨by have := HU1.out; omega, by have := HU1.out; omega⟩ (HA1.out.old HI.out.bel hM1) HI.out.hist (by have := HU1.out; omega)).mono ?_
      rintro e w1 ⟨sv, av, rfl, vs, M', s', m', states, at_, hC, hK, hH, hG⟩
      have hat := hC.at HI.out.bel (fun k h => (hM k h).1) hq
      obtain ⟨Av, cv, eav, _⟩ := nums_at hC.arow
      subst eav
      have HC := Lib.hid hC
      have HK := Lib.hid hK
      have HH := Lib.hid hH
      have HGD := Lib.hid hG
      have HAT := Lib.hid hat
      have HZ1 := Lib.hid ((hat.bel.block _ (Array.getElem?_eq_some_iff.1 HZ.out).1).trans HZ.out)
      clear hC hK hH hG hat hst hmd hM hM1 hq
      have hwl0 : s'.writes.length ≤ 20000000 := by have ok := HAT.out.ok; have := ok.writes; have := ok.logged; omega
      have HWL := Lib.hid (rfl : s'.writes.length = s'.writes.length)
      generalize hwl : s'.writes.length = wl at hwl0
      have HWL2 := Lib.hid hwl
      clear hwl HWL
      have hrem : (a : Int).tmod ((wl : Int) + 1) = ((a % (wl + 1) : Nat) : Int) := by
        rw [show (wl : Int) + 1 = ((wl + 1 : Nat) : Int) from rfl]; rfl
      have hKl : a % (wl + 1) ≤ wl := Nat.le_of_lt_succ (Nat.mod_lt _ (Nat.succ_pos _))
      generalize a % (wl + 1) = KK at hrem hKl
      have hne : ¬ ((wl : Int) + 1 = 0) := by omega
      have hwra : IntKind.i64.wrap (a : Int) = (a : Int) := IntWalk.i64_in _ (by have := HQ.out; omega)
      have hwrl : IntKind.i64.wrap ((wl : Int) + 1) = (wl : Int) + 1 := IntWalk.i64_in _ (by omega)
      have hwr := at_writes (HAT.out.below (Below.refl _ w1).drew)
      rw [HWL2.out] at hwr
      have hwz0 : IntKind.i64.wrap 0 = 0 := by rfl
      have hwz2 : IntKind.i64.wrap 2 = 2 := by rfl
      go_upto_region 15 with fail
      refine wp_region_plan 9 [(0, false), (1, false), (2, false), (3, false), (4, false), (5, false), (6, true), (7, false), (8, false)] (fun w' => w'.heap[zb]? = some (.cells (zcells a b c d) 65 (0, 0))) (by kernel_rfl) (by kernel_rfl) (fun c a d v w h => by cases d <;> exact h) HZ1.out ?_
      repeat
        refine wpPlan_read (v := ?_) (by rfl) (by rfl) (fun w' hS => ?_) (fun K hK => ?_)
        rotate_left
        · have hcz := fun j => cell_of_row w' zb j _ _ _ hS
          clear hS
          go_simp
          try with_reducible rfl
        go_simp
        refine hK _ ?_
        clear hK K
      refine wpPlan_write (by rfl) (fun K hK => ?_)
      go_simp
      refine hwr.mono ?_
      clear hwr
      rintro e Y ⟨rfl, hY⟩
      subst hY
      refine hK.out _ _ HZ1.out ?_
      clear hK K
      repeat
        refine wpPlan_read (v := ?_) (by rfl) (by rfl) (fun w' hS => ?_) (fun K hK => ?_)
        rotate_left
        · have hcz := fun j => cell_of_row w' zb j _ _ _ hS
          clear hS
          go_simp
          try with_reducible rfl
        go_simp
        refine hK _ ?_
        clear hK K
      show wpList _ _ _ _ _ _
      have HATd := Lib.hid (HAT.out.below (Below.refl _ w1).drew)
      have HCd := Lib.hid (HC.out.below (Below.refl _ w1).drew)
      have HZd := Lib.hid (show w1.drew.heap[zb]? = some (.cells (zcells a b c d) 65 (0, 0)) from HZ1.out)
      clear HAT HC HZ1 hwra hwrl hne hrem
      generalize w1.drew = x1 at HATd HCd HZd ⊢
      have hwb : J.wlen s' KK ≤ 1048576 := J.wlen_le (fun w hw => by have := HK.out.bud.wb w hw; have := HU1.out; omega)
      have hKl2 : KK ≤ s'.writes.length := by rw [HWL2.out]; exact hKl
      go_wp2_with fail
      refine (size_any HATd.out HK.out.wok KK 1048576 hKl2 (by decide) hwb).mono ?_
      rintro e w2 ⟨rfl, hb2⟩
      have HB2 := Lib.hid hb2
      generalize hX : J.wlen s' KK = X at hwb ⊢
      have HX := Lib.hid hX
      clear hX hb2
      have hrem2 : (b : Int).tmod ((X : Int) + 1) = ((b % (X + 1) : Nat) : Int) := by
        rw [show (X : Int) + 1 = ((X + 1 : Nat) : Int) from rfl]; rfl
      have hTl : b % (X + 1) ≤ X := Nat.le_of_lt_succ (Nat.mod_lt _ (Nat.succ_pos _))
      generalize b % (X + 1) = T at hrem2 hTl
      have hwt : wrap64 (b : Int) = (b : Int) := IntWalk.wrap64_in _ (by have := HQ.out; omega)
      have hcz := fun j => cell_of_row w2 zb j _ _ _ ((HB2.out.block _ (Array.getElem?_eq_some_iff.1 HZd.out).1).trans HZd.out)
      go_wp2_with fail
      clear hrem2 hwt hcz
      have hcut := J.wlen_cut (s := s') (k := KK) (n := T) (by rw [HX.out]; exact hTl)
      obtain ⟨now, hnow, hholds⟩ := HH.out.holds KK T hKl2 hcut
      have hcg := J.cut_gen HK.out KK T
      have hca := J.cut_areas HK.out KK T
      have hch := J.cut_heads HK.out.wok HATd.out.ok.logged KK T
      have hef := J.eff_eq s' KK T
      rw [HX.out] at hef
      refine (at_cutB (HATd.out.below HB2.out) HK.out.wok KK T hKl2 hcut).mono ?_
      rintro e w3 ⟨v, rfl, hi, hb3⟩
      obtain ⟨I0, I1, I2, I3, rfl, q0, q1, q2, q3⟩ := imgC_parts hi
      generalize J.cutImg s' KK T = CI at hholds hcg hca hch hi q0 q1 q2 q3 ⊢
      generalize J.eff s' KK T = EF at hnow hholds hef
      have HNOW := Lib.hid hnow
      have HHO := Lib.hid hholds
      have HCG := Lib.hid hcg
      have HCA := Lib.hid hca
      have HCH := Lib.hid hch
      have HEF := Lib.hid hef
      have HQ0 := Lib.hid q0
      have HQ1 := Lib.hid q1
      have HQ2 := Lib.hid q2
      have HQ3 := Lib.hid q3
      have hB23 := HB2.out.trans (hb3.mono HB2.out.size)
      have hB3 := hB23.alloc hB23.size (.cells #[.slice I0 CI.h0.length CI.h0.length, .slice I1 CI.h1.length CI.h1.length, .slice I2 CI.a0.length CI.a0.length, .slice I3 CI.a1.length CI.a1.length] 35)
      have HB3 := Lib.hid hB3
      have hB33 := (Below.refl _ w3).alloc (Nat.le_refl _) (.cells #[.slice I0 CI.h0.length CI.h0.length, .slice I1 CI.h1.length CI.h1.length, .slice I2 CI.a0.length CI.a0.length, .slice I3 CI.a1.length CI.a1.length] 35)
      have HB33 := Lib.hid hB33
      have HRD := Lib.hid (heap_alloc_new w3 (.cells #[.slice I0 CI.h0.length CI.h0.length, .slice I1 CI.h1.length CI.h1.length, .slice I2 CI.a0.length CI.a0.length, .slice I3 CI.a1.length CI.a1.length] 35))
      clear hnow hholds hcg hca hch hef q0 q1 q2 q3 hi hb3 hB23 hB3 hB33 hcut
      go_wp2_with fail
      have hno : NoCut s' (KK : Int) ((X : Int) + 1) := J.wlen_no hKl2 (by rw [HX.out]; exact Nat.lt_succ_self X)
      refine (at_cut_noneB (HATd.out.below HB3.out) KK ((X : Int) + 1) hno).mono ?_
      rintro e w4 ⟨rfl, hb4⟩
      have hB4 := HB3.out.trans (hb4.mono HB3.out.size)
      have hb34 := HB33.out.trans (hb4.mono HB33.out.size)
      have hB5 : Below x1.heap.size x1 (w4.alloc (.cells #[.slice none 0 0, .slice none 0 0, .slice none 0 0, .slice none 0 0] 35)) := hB4.alloc hB4.size _
      have hb35 : Below w3.heap.size w3 (w4.alloc (.cells #[.slice none 0 0, .slice none 0 0, .slice none 0 0, .slice none 0 0] 35)) := hb34.alloc hb34.size _
      have hrd4 := (hb4.block _ (by simp)).trans HRD.out
      have hrd := (Below.heap_alloc w4 (.cells #[.slice none 0 0, .slice none 0 0, .slice none 0 0, .slice none 0 0] 35) w3.heap.size (Array.getElem?_eq_some_iff.1 hrd4).1).trans hrd4
      have HB5 := Lib.hid hB5
      have HB35 := Lib.hid hb35
      have HRD5 := Lib.hid hrd
      clear hB4 hb34 hB5 hb35 hrd4 hrd hb4 HB3 HB33 HRD hno
      go_upto_if 96 with fail
      generalize w4.alloc (.cells #[.slice none 0 0, .slice none 0 0, .slice none 0 0, .slice none 0 0] 35) = w5 at HB5 HB35 HRD5 ⊢
      have hcd := fun j => cell_of_row w5 w3.heap.size j _ _ _ HRD5.out
      go_wp2_with fail
      clear hcd
      refine (at_recover_holds w5 CI (bb + J.lastIx at_ EF) now HHO.out _ _ _ _ w5 (Below.refl _ _) (HQ0.out.step (Step.of_below HB35.out)) (HQ1.out.step (Step.of_below HB35.out)) (HQ2.out.step (Step.of_below HB35.out)) (HQ3.out.step (Step.of_below HB35.out)) HCH.out.1 HCH.out.2).mono ?_
      rintro e w6 ⟨p2, at2, rfl, hat2, hle2, hrd2, hps2, hb6⟩
      have hlg : s'.logged ≤ 1400000 := by have h1 := HK.out.bud.lg; have h2 := HU1.out; split at h1 <;> omega
      have hal : at_.length ≤ 541 := by have h1 := HH.out.com; have h2 := HK.out.bud.cm; have h3 := HU1.out; omega
      have hbeh := behind_any Av cv at_ KK T X w6 ((nums_at_of HCd.out.arow).below (HB5.out.trans (hb6.mono HB5.out.size))) (by omega) (by omega) (fun x hx => by have h1 := HH.out.le x hx; rw [HWL2.out] at h1; omega)
      rw [HEF.out] at hbeh
      generalize J.lastIx at_ EF = n at hbeh hat2 hrd2 hle2 hps2 HNOW HHO
      obtain ⟨gS, cS, vS, esv, hgS, hcS, hpw, hnlt⟩ := HCd.out.get n now HNOW.out
      subst esv
      obtain ⟨An, cn, rfl⟩ := hpw.slice_
      have hcn : bb + n ≤ u + 200 := by have h1 := HH.out.com; have h2 := HK.out.bud.cm; have h3 := HU1.out; have h4 := HH.out.len; omega
      have hkr := J.kept_recovered (A := 0) (c := 0) (B' := AA + 1400000) (u := u + 200) hrd2 hle2 hps2 (by have := HCA.out.1; omega) (by have := HCA.out.2; omega) (by omega) (by have h1 := HCG.out; have h2 := HK.out.bud.gn; have h3 := HU1.out; omega) hcn ((HGD.out now (List.mem_of_getElem? HNOW.out)).more (by have := HU1.out; omega)) rfl
      obtain ⟨M2, g1, g2, g3⟩ := hat2
      have HB56 := Lib.hid g3
      have hp5 : Prs w6 M2 (.slice An now.length cn) now := ((hpw.step (Step.of_below HB5.out)).prs (fun k hk => by have := (g2 k hk).1; omega)).step (Step.of_below g3)
      have hgood := (HGD.out now (List.mem_of_getElem? HNOW.out)).more (show u + J.units L1 ≤ 540 by have := HU1.out; omega)
      have e1 : (J.recovered CI at2 (bb + n) now).now = now := rfl
      have e2 : (J.recovered CI at2 (bb + n) now).commits = bb + n := rfl
      have e3 : (J.recovered CI at2 (bb + n) now).writes = [] := rfl
      have e4 : (J.recovered CI at2 (bb + n) now).opn = false := rfl
      have e5 : (J.recovered CI at2 (bb + n) now).com = now := rfl
      generalize J.recovered CI at2 (bb + n) now = s2 at hkr g1 e1 e2 e3 e4 e5
      have hh2 := J.hist_base hkr.inv e3
      rw [e2, e5] at hh2
      have hag := agrees_any p2 M2 s2 (.slice An now.length cn) w6 g1 (by rw [e1]; exact hp5.weak (fun _ h => h.elim)) (by rw [e1]; exact Nat.le_trans (J.good_len hgood (by rw [← e1]; exact hkr.inv.asc)) (by decide)) (by rw [e1]; exact J.good_small hgood (Nat.le_refl _))
      rw [e2, Int.natCast_add] at hag
      have HAG := Lib.hid hag
      have HE3 := Lib.hid e3
      have HE4 := Lib.hid e4
      have HH2 := Lib.hid hh2
      clear hag e1 e2 e3 e4 e5 hh2
      have HKR := Lib.hid hkr
      have HP6 := Lib.hid hp5
      have HG1 := Lib.hid g1
      have HG2 := Lib.hid g2
      have HBH := Lib.hid hbeh
      have HB6 := Lib.hid (HB5.out.trans (hb6.mono HB5.out.size))
      have HCS := Lib.hid ((HB6.out.cell (p := ⟨gS, n, none⟩) hgS).trans hcS)
      have hns : n < states.length := hnlt
      have hwbn : wrap64 ((bb : Int) + (n : Int)) = (bb : Int) + (n : Int) := IntWalk.wrap64_in _ (by omega)
      have hsl2 : states.length ≤ 541 := by have := HH.out.len; omega
      clear hkr g1 g2 g3 hp5 hpw hcS hgS hbeh hle2 hrd2 hps2 hb6 hgood hcn hnlt HCG HCA HCH HEF HQ0 HQ1 HQ2 HQ3 HHO
      go_wp2_with fail
      refine HBH.out.mono ?_
      rintro e Y ⟨rfl, hY⟩
      subst hY
      have hcs := HCS.out
      go_wp2_with fail
      refine HAG.out.mono ?_
      rintro e w7 ⟨rfl, hb7⟩
      have HB7 := Lib.hid hb7
      clear hb7 hcs
      have hwr2 := at_writes (w0 := w5) (p := p2) (s := s2) (w := w7) ⟨M2, HG1.out.below HB7.out, fun k hk => ⟨(HG2.out k hk).1, Nat.lt_of_lt_of_le (HG2.out k hk).2 HB7.out.size⟩, HB56.out.trans (HB7.out.mono HB56.out.size)⟩
      rw [HE3.out] at hwr2
      go_wp2_with fail
      refine hwr2.mono ?_
      clear hwr2
      rintro e Y ⟨rfl, hY⟩
      subst hY
      have hcs := (HB7.out.cell (p := ⟨gS, n, none⟩) (cell_lt HCS.out)).trans HCS.out
      have hnext := cutI_next w0 w5 w6 w7 p2 (bb + n) (u + 200) (AA + 1400000) M2 s2 now An cn (HATd.out.bel.trans (HB5.out.mono HATd.out.bel.size)) HG1.out HG2.out HB56.out HB7.out HP6.out HKR.out HH2.out HE4.out
      rw [Int.natCast_add] at hnext
      have HNX := Lib.hid hnext
      clear hnext
      go_wp2_with fail
      go_roundw
      case rel => exact ⟨0 + 1, p2, w7.heap.size, bb + n, u + 200, AA + 1400000, s2, ⟨now, [], false, bb + n⟩, by omega, rfl, rfl, rfl, by rw [hwbn]; rfl, by omega, by omega, HNX⟩
      case measure => simp [intOf]
    · go_wp2_with fail
      obtain ⟨M, hst, hmd, hM, hq⟩ := HI.out.st
      have hM1 : ∀ k, M k ∨ k = q → w0.heap.size ≤ k := fun k hk => hk.elim (fun h => (hM k h).1) (fun e => by rw [e]; exact hq)
      refine (run_any AA u u p q M s m A2 c2 L2 bb wr hst hmd (fun k h => (hM k h).2) HI.out.kept ⟨by have := HU2.out; omega, by have := HU2.out; omega⟩ (HA2.out.old HI.out.bel hM1) HI.out.hist (by have := HU2.out; omega)).mono ?_
      rintro e w1 ⟨sv, av, rfl, vs, M', s', m', states, at_, hC, hK, hH, hG⟩
      have hat := hC.at HI.out.bel (fun k h => (hM k h).1) hq
      obtain ⟨Av, cv, eav, _⟩ := nums_at hC.arow
      subst eav
      have HC := Lib.hid hC
      have HK := Lib.hid hK
      have HH := Lib.hid hH
      have HGD := Lib.hid hG
      have HAT := Lib.hid hat
      have HZ1 := Lib.hid ((hat.bel.block _ (Array.getElem?_eq_some_iff.1 HZ.out).1).trans HZ.out)
      clear hC hK hH hG hat hst hmd hM hM1 hq
      have hwl0 : s'.writes.length ≤ 20000000 := by have ok := HAT.out.ok; have := ok.writes; have := ok.logged; omega
      have HWL := Lib.hid (rfl : s'.writes.length = s'.writes.length)
      generalize hwl : s'.writes.length = wl at hwl0
      have HWL2 := Lib.hid hwl
      clear hwl HWL
      have hrem : (c : Int).tmod ((wl : Int) + 1) = ((c % (wl + 1) : Nat) : Int) := by
        rw [show (wl : Int) + 1 = ((wl + 1 : Nat) : Int) from rfl]; rfl
      have hKl : c % (wl + 1) ≤ wl := Nat.le_of_lt_succ (Nat.mod_lt _ (Nat.succ_pos _))
      generalize c % (wl + 1) = KK at hrem hKl
      have hne : ¬ ((wl : Int) + 1 = 0) := by omega
      have hwra : IntKind.i64.wrap (c : Int) = (c : Int) := IntWalk.i64_in _ (by have := HQ.out; omega)
      have hwrl : IntKind.i64.wrap ((wl : Int) + 1) = (wl : Int) + 1 := IntWalk.i64_in _ (by omega)
      have hwr := at_writes (HAT.out.below (Below.refl _ w1).drew)
      rw [HWL2.out] at hwr
      have hwz0 : IntKind.i64.wrap 0 = 0 := by rfl
      have hwz2 : IntKind.i64.wrap 2 = 2 := by rfl
      go_upto_region 15 with fail
      refine wp_region_plan 9 [(0, false), (1, false), (2, false), (3, false), (4, false), (5, false), (6, true), (7, false), (8, false)] (fun w' => w'.heap[zb]? = some (.cells (zcells a b c d) 65 (0, 0))) (by kernel_rfl) (by kernel_rfl) (fun c a d v w h => by cases d <;> exact h) HZ1.out ?_
      repeat
        refine wpPlan_read (v := ?_) (by rfl) (by rfl) (fun w' hS => ?_) (fun K hK => ?_)
        rotate_left
        · have hcz := fun j => cell_of_row w' zb j _ _ _ hS
          clear hS
          go_simp
          try with_reducible rfl
        go_simp
        refine hK _ ?_
        clear hK K
      refine wpPlan_write (by rfl) (fun K hK => ?_)
      go_simp
      refine hwr.mono ?_
      clear hwr
      rintro e Y ⟨rfl, hY⟩
      subst hY
      refine hK.out _ _ HZ1.out ?_
      clear hK K
      repeat
        refine wpPlan_read (v := ?_) (by rfl) (by rfl) (fun w' hS => ?_) (fun K hK => ?_)
        rotate_left
        · have hcz := fun j => cell_of_row w' zb j _ _ _ hS
          clear hS
          go_simp
          try with_reducible rfl
        go_simp
        refine hK _ ?_
        clear hK K
      show wpList _ _ _ _ _ _
      have HATd := Lib.hid (HAT.out.below (Below.refl _ w1).drew)
      have HCd := Lib.hid (HC.out.below (Below.refl _ w1).drew)
      have HZd := Lib.hid (show w1.drew.heap[zb]? = some (.cells (zcells a b c d) 65 (0, 0)) from HZ1.out)
      clear HAT HC HZ1 hwra hwrl hne hrem
      generalize w1.drew = x1 at HATd HCd HZd ⊢
      have hwb : J.wlen s' KK ≤ 1048576 := J.wlen_le (fun w hw => by have := HK.out.bud.wb w hw; have := HU2.out; omega)
      have hKl2 : KK ≤ s'.writes.length := by rw [HWL2.out]; exact hKl
      go_wp2_with fail
      refine (size_any HATd.out HK.out.wok KK 1048576 hKl2 (by decide) hwb).mono ?_
      rintro e w2 ⟨rfl, hb2⟩
      have HB2 := Lib.hid hb2
      generalize hX : J.wlen s' KK = X at hwb ⊢
      have HX := Lib.hid hX
      clear hX hb2
      have hrem2 : (d : Int).tmod ((X : Int) + 1) = ((d % (X + 1) : Nat) : Int) := by
        rw [show (X : Int) + 1 = ((X + 1 : Nat) : Int) from rfl]; rfl
      have hTl : d % (X + 1) ≤ X := Nat.le_of_lt_succ (Nat.mod_lt _ (Nat.succ_pos _))
      generalize d % (X + 1) = T at hrem2 hTl
      have hwt : wrap64 (d : Int) = (d : Int) := IntWalk.wrap64_in _ (by have := HQ.out; omega)
      have hcz := fun j => cell_of_row w2 zb j _ _ _ ((HB2.out.block _ (Array.getElem?_eq_some_iff.1 HZd.out).1).trans HZd.out)
      go_wp2_with fail
      clear hrem2 hwt hcz
      have hcut := J.wlen_cut (s := s') (k := KK) (n := T) (by rw [HX.out]; exact hTl)
      obtain ⟨now, hnow, hholds⟩ := HH.out.holds KK T hKl2 hcut
      have hcg := J.cut_gen HK.out KK T
      have hca := J.cut_areas HK.out KK T
      have hch := J.cut_heads HK.out.wok HATd.out.ok.logged KK T
      have hef := J.eff_eq s' KK T
      rw [HX.out] at hef
      refine (at_cutB (HATd.out.below HB2.out) HK.out.wok KK T hKl2 hcut).mono ?_
      rintro e w3 ⟨v, rfl, hi, hb3⟩
      obtain ⟨I0, I1, I2, I3, rfl, q0, q1, q2, q3⟩ := imgC_parts hi
      generalize J.cutImg s' KK T = CI at hholds hcg hca hch hi q0 q1 q2 q3 ⊢
      generalize J.eff s' KK T = EF at hnow hholds hef
      have HNOW := Lib.hid hnow
      have HHO := Lib.hid hholds
      have HCG := Lib.hid hcg
      have HCA := Lib.hid hca
      have HCH := Lib.hid hch
      have HEF := Lib.hid hef
      have HQ0 := Lib.hid q0
      have HQ1 := Lib.hid q1
      have HQ2 := Lib.hid q2
      have HQ3 := Lib.hid q3
      have hB23 := HB2.out.trans (hb3.mono HB2.out.size)
      have hB3 := hB23.alloc hB23.size (.cells #[.slice I0 CI.h0.length CI.h0.length, .slice I1 CI.h1.length CI.h1.length, .slice I2 CI.a0.length CI.a0.length, .slice I3 CI.a1.length CI.a1.length] 35)
      have HB3 := Lib.hid hB3
      have hB33 := (Below.refl _ w3).alloc (Nat.le_refl _) (.cells #[.slice I0 CI.h0.length CI.h0.length, .slice I1 CI.h1.length CI.h1.length, .slice I2 CI.a0.length CI.a0.length, .slice I3 CI.a1.length CI.a1.length] 35)
      have HB33 := Lib.hid hB33
      have HRD := Lib.hid (heap_alloc_new w3 (.cells #[.slice I0 CI.h0.length CI.h0.length, .slice I1 CI.h1.length CI.h1.length, .slice I2 CI.a0.length CI.a0.length, .slice I3 CI.a1.length CI.a1.length] 35))
      clear hnow hholds hcg hca hch hef q0 q1 q2 q3 hi hb3 hB23 hB3 hB33 hcut
      go_wp2_with fail
      have hno : NoCut s' (KK : Int) ((X : Int) + 1) := J.wlen_no hKl2 (by rw [HX.out]; exact Nat.lt_succ_self X)
      refine (at_cut_noneB (HATd.out.below HB3.out) KK ((X : Int) + 1) hno).mono ?_
      rintro e w4 ⟨rfl, hb4⟩
      have hB4 := HB3.out.trans (hb4.mono HB3.out.size)
      have hb34 := HB33.out.trans (hb4.mono HB33.out.size)
      have hB5 : Below x1.heap.size x1 (w4.alloc (.cells #[.slice none 0 0, .slice none 0 0, .slice none 0 0, .slice none 0 0] 35)) := hB4.alloc hB4.size _
      have hb35 : Below w3.heap.size w3 (w4.alloc (.cells #[.slice none 0 0, .slice none 0 0, .slice none 0 0, .slice none 0 0] 35)) := hb34.alloc hb34.size _
      have hrd4 := (hb4.block _ (by simp)).trans HRD.out
      have hrd := (Below.heap_alloc w4 (.cells #[.slice none 0 0, .slice none 0 0, .slice none 0 0, .slice none 0 0] 35) w3.heap.size (Array.getElem?_eq_some_iff.1 hrd4).1).trans hrd4
      have HB5 := Lib.hid hB5
      have HB35 := Lib.hid hb35
      have HRD5 := Lib.hid hrd
      clear hB4 hb34 hB5 hb35 hrd4 hrd hb4 HB3 HB33 HRD hno
      go_upto_if 96 with fail
      generalize w4.alloc (.cells #[.slice none 0 0, .slice none 0 0, .slice none 0 0, .slice none 0 0] 35) = w5 at HB5 HB35 HRD5 ⊢
      have hcd := fun j => cell_of_row w5 w3.heap.size j _ _ _ HRD5.out
      go_wp2_with fail
      clear hcd
      refine (at_recover_holds w5 CI (bb + J.lastIx at_ EF) now HHO.out _ _ _ _ w5 (Below.refl _ _) (HQ0.out.step (Step.of_below HB35.out)) (HQ1.out.step (Step.of_below HB35.out)) (HQ2.out.step (Step.of_below HB35.out)) (HQ3.out.step (Step.of_below HB35.out)) HCH.out.1 HCH.out.2).mono ?_
      rintro e w6 ⟨p2, at2, rfl, hat2, hle2, hrd2, hps2, hb6⟩
      have hlg : s'.logged ≤ 1400000 := by have h1 := HK.out.bud.lg; have h2 := HU2.out; split at h1 <;> omega
      have hal : at_.length ≤ 541 := by have h1 := HH.out.com; have h2 := HK.out.bud.cm; have h3 := HU2.out; omega
      have hbeh := behind_any Av cv at_ KK T X w6 ((nums_at_of HCd.out.arow).below (HB5.out.trans (hb6.mono HB5.out.size))) (by omega) (by omega) (fun x hx => by have h1 := HH.out.le x hx; rw [HWL2.out] at h1; omega)
      rw [HEF.out] at hbeh
      generalize J.lastIx at_ EF = n at hbeh hat2 hrd2 hle2 hps2 HNOW HHO
      obtain ⟨gS, cS, vS, esv, hgS, hcS, hpw, hnlt⟩ := HCd.out.get n now HNOW.out
      subst esv
      obtain ⟨An, cn, rfl⟩ := hpw.slice_
      have hcn : bb + n ≤ u + 200 := by have h1 := HH.out.com; have h2 := HK.out.bud.cm; have h3 := HU2.out; have h4 := HH.out.len; omega
      have hkr := J.kept_recovered (A := 0) (c := 0) (B' := AA + 1400000) (u := u + 200) hrd2 hle2 hps2 (by have := HCA.out.1; omega) (by have := HCA.out.2; omega) (by omega) (by have h1 := HCG.out; have h2 := HK.out.bud.gn; have h3 := HU2.out; omega) hcn ((HGD.out now (List.mem_of_getElem? HNOW.out)).more (by have := HU2.out; omega)) rfl
      obtain ⟨M2, g1, g2, g3⟩ := hat2
      have HB56 := Lib.hid g3
      have hp5 : Prs w6 M2 (.slice An now.length cn) now := ((hpw.step (Step.of_below HB5.out)).prs (fun k hk => by have := (g2 k hk).1; omega)).step (Step.of_below g3)
      have hgood := (HGD.out now (List.mem_of_getElem? HNOW.out)).more (show u + J.units L2 ≤ 540 by have := HU2.out; omega)
      have e1 : (J.recovered CI at2 (bb + n) now).now = now := rfl
      have e2 : (J.recovered CI at2 (bb + n) now).commits = bb + n := rfl
      have e3 : (J.recovered CI at2 (bb + n) now).writes = [] := rfl
      have e4 : (J.recovered CI at2 (bb + n) now).opn = false := rfl
      have e5 : (J.recovered CI at2 (bb + n) now).com = now := rfl
      generalize J.recovered CI at2 (bb + n) now = s2 at hkr g1 e1 e2 e3 e4 e5
      have hh2 := J.hist_base hkr.inv e3
      rw [e2, e5] at hh2
      have hag := agrees_any p2 M2 s2 (.slice An now.length cn) w6 g1 (by rw [e1]; exact hp5.weak (fun _ h => h.elim)) (by rw [e1]; exact Nat.le_trans (J.good_len hgood (by rw [← e1]; exact hkr.inv.asc)) (by decide)) (by rw [e1]; exact J.good_small hgood (Nat.le_refl _))
      rw [e2, Int.natCast_add] at hag
      have HAG := Lib.hid hag
      have HE3 := Lib.hid e3
      have HE4 := Lib.hid e4
      have HH2 := Lib.hid hh2
      clear hag e1 e2 e3 e4 e5 hh2
      have HKR := Lib.hid hkr
      have HP6 := Lib.hid hp5
      have HG1 := Lib.hid g1
      have HG2 := Lib.hid g2
      have HBH := Lib.hid hbeh
      have HB6 := Lib.hid (HB5.out.trans (hb6.mono HB5.out.size))
      have HCS := Lib.hid ((HB6.out.cell (p := ⟨gS, n, none⟩) hgS).trans hcS)
      have hns : n < states.length := hnlt
      have hwbn : wrap64 ((bb : Int) + (n : Int)) = (bb : Int) + (n : Int) := IntWalk.wrap64_in _ (by omega)
      have hsl2 : states.length ≤ 541 := by have := HH.out.len; omega
      clear hkr g1 g2 g3 hp5 hpw hcS hgS hbeh hle2 hrd2 hps2 hb6 hgood hcn hnlt HCG HCA HCH HEF HQ0 HQ1 HQ2 HQ3 HHO
      go_wp2_with fail
      refine HBH.out.mono ?_
      rintro e Y ⟨rfl, hY⟩
      subst hY
      have hcs := HCS.out
      go_wp2_with fail
      refine HAG.out.mono ?_
      rintro e w7 ⟨rfl, hb7⟩
      have HB7 := Lib.hid hb7
      clear hb7 hcs
      have hwr2 := at_writes (w0 := w5) (p := p2) (s := s2) (w := w7) ⟨M2, HG1.out.below HB7.out, fun k hk => ⟨(HG2.out k hk).1, Nat.lt_of_lt_of_le (HG2.out k hk).2 HB7.out.size⟩, HB56.out.trans (HB7.out.mono HB56.out.size)⟩
      rw [HE3.out] at hwr2
      go_wp2_with fail
      refine hwr2.mono ?_
      clear hwr2
      rintro e Y ⟨rfl, hY⟩
      subst hY
      have hcs := (HB7.out.cell (p := ⟨gS, n, none⟩) (cell_lt HCS.out)).trans HCS.out
      have hnext := cutI_next w0 w5 w6 w7 p2 (bb + n) (u + 200) (AA + 1400000) M2 s2 now An cn (HATd.out.bel.trans (HB5.out.mono HATd.out.bel.size)) HG1.out HG2.out HB56.out HB7.out HP6.out HKR.out HH2.out HE4.out
      rw [Int.natCast_add] at hnext
      have HNX := Lib.hid hnext
      clear hnext
      go_wp2_with fail
      go_roundw
      case rel => exact ⟨1 + 1, p2, w7.heap.size, bb + n, u + 200, AA + 1400000, s2, ⟨now, [], false, bb + n⟩, by omega, rfl, rfl, rfl, by rw [hwbn]; rfl, by omega, by omega, HNX⟩
      case measure => simp [intOf]
    · obtain ⟨M, hst, hmd, hM, hq⟩ := HI.out.st
      have HAT := Lib.hid (show At w0 p s wr from ⟨M, hst, hM, HI.out.bel⟩)
      obtain ⟨nv, wv, hrow, _, hnv, _⟩ := hmd
      rw [HI.out.kept.rel.now] at hnv
      have hcom : bb = s.commits := HI.out.hist.com
      have hsc : s.com = s.now := by unfold J.St.com; rw [HI.out.opn]; rfl
      have hhold := HI.out.kept.inv.disk.holds
      rw [hsc] at hhold
      have hh0 := HI.out.kept.inv.disk.h0.len
      have hh1 := HI.out.kept.inv.disk.h1.len
      have hasc := HI.out.kept.inv.asc
      have hgood : J.Good 540 s.now := ⟨HI.out.kept.bud.kn, by have := HI.out.kept.bud.vn; omega⟩
      have HHO := Lib.hid hhold
      have HNV := Lib.hid hnv.toW
      have HRW := Lib.hid hrow
      obtain ⟨An, cn, rfl⟩ := hnv.toW.slice_
      have HGO := Lib.hid (And.intro (J.good_len hgood hasc) (J.good_small hgood (Nat.le_refl _)))
      subst hcom
      have HBW := Lib.hid HI.out.bel
      clear hst hM hq hnv hrow hhold hgood hasc hsc HI
      go_wp2_with fail
      refine (at_imageB HAT.out).mono ?_
      rintro e w1 ⟨v, rfl, hi, hb1⟩
      obtain ⟨I0, I1, I2, I3, rfl, q0, q1, q2, q3⟩ := imgC_parts hi
      have HB1 := Lib.hid hb1
      have HQQ := Lib.hid (And.intro (And.intro q0 q1) (And.intro q2 q3))
      clear q0 q1 q2 q3 hi hb1
      go_wp2_with fail
      refine (at_recover_holds w1 s.disk s.commits s.now HHO.out _ _ _ _ w1 (Below.refl _ _) HQQ.out.1.1 HQQ.out.1.2 HQQ.out.2.1 HQQ.out.2.2 (by omega) (by omega)).mono ?_
      rintro e w2 ⟨p2, at2, rfl, hat2, _, _, _, hb2⟩
      obtain ⟨M2, g1, g2, g3⟩ := hat2
      have hp2 : Prs w2 NoM (.slice An s.now.length cn) s.now := ((HNV.out.step (M' := NoM) ⟨HB1.out.os, HB1.out.tape, HB1.out.output, HB1.out.size, fun k hk _ => HB1.out.block k hk, fun _ _ h => h.elim⟩).prs (M' := NoM) (fun _ h => h.elim)).step (Step.of_below hb2)
      have e1 : (J.recovered s.disk at2 s.commits s.now).now = s.now := rfl
      have e2 : (J.recovered s.disk at2 s.commits s.now).commits = s.commits := rfl
      generalize J.recovered s.disk at2 s.commits s.now = s2 at g1 e1 e2
      have hag := agrees_any p2 M2 s2 (.slice An s.now.length cn) w2 g1 (by rw [e1]; exact hp2) (by rw [e1]; exact Nat.le_trans HGO.out.1 (by decide)) (by rw [e1]; exact HGO.out.2)
      rw [e2] at hag
      have HAG := Lib.hid hag
      have hb02 := HB1.out.trans (hb2.mono HB1.out.size)
      have hrow2 := (hb02.block _ (Array.getElem?_eq_some_iff.1 HRW.out).1).trans HRW.out
      have hcq := fun j => cell_of_row w2 q j _ _ _ hrow2
      have HB02 := Lib.hid (HBW.out.trans (hb02.mono HBW.out.size))
      clear hag g1 g2 g3 hp2 e1 e2 hb02 hrow2 hb2
      go_wp2_with fail
      refine HAG.out.mono ?_
      rintro e w3 ⟨rfl, hb3⟩
      have HB03 := Lib.hid (HB02.out.trans (hb3.mono HB02.out.size))
      clear hb3 hcq
      go_wp2_with fail
      refine (lives_any w3).mono ?_
      rintro e w4 ⟨rfl, hb4⟩
      have HB04 := Lib.hid (HB03.out.trans (hb4.mono HB03.out.size))
      clear hb4
      go_wp2_with fail
      go_ret
      exact ⟨rfl, HBF.out.trans (HB04.out.mono HBF.out.size)⟩
end Go.Proofs.Ythjjbaiijelhnaa
