import Derived.Test.YthjjbaiijelhnaaM32
import Derived.Test.YthjjbaiijelhnaaM37
import Derived.Deep.CutBlock
import Derived.Deep.CutRange
set_option linter.unusedVariables false
set_option linter.unusedSimpArgs false
/- Law 30: JournalsBytes. -/
namespace Go.Proofs.Ythjjbaiijelhnaa
open Go.RowKit Go.Lib Go.Maps Go.WideMaps Go.Sort
set_option maxRecDepth 100000
theorem byt_lives (k : ByteArray) (A : Option Addr) (n c : Nat) (gone : Bool) (w : World) (h : k.toList = [] ∨ 300 < (k.size : Int) ∨ 200 < (n : Int)) :
    Calls Try.prog 3 #[.string k, .slice A n c, .bool gone] w fun e w' => e = .returned (.bool true) ∧ Below w.heap.size w w' := by
  have HL := Lib.hid (lives_any w)
  by_cases h1 : k.toList = []
  · have h2 : k.toList.isEmpty = true := by rw [h1]; rfl
    go_enter Try.func3, Try.ntmps3
    go_wp2_with fail
    refine HL.out.mono ?_
    rintro e w1 ⟨rfl, hb⟩
    go_wp2
    go_ret
    exact ⟨rfl, hb⟩
  · have h2 : k.toList.isEmpty = false := by cases e : k.toList <;> simp_all
    by_cases h3 : (300 : Int) < (k.size : Int)
    · go_enter Try.func3, Try.ntmps3
      go_wp2_with fail
      refine HL.out.mono ?_
      rintro e w1 ⟨rfl, hb⟩
      go_wp2
      go_ret
      exact ⟨rfl, hb⟩
    · have h4 : (200 : Int) < (n : Int) := by
        rcases h with h | h | h
        · exact absurd h h1
        · exact absurd h h3
        · exact h
      go_enter Try.func3, Try.ntmps3
      go_wp2_with fail
      refine HL.out.mono ?_
      rintro e w1 ⟨rfl, hb⟩
      go_wp2
      go_ret
      exact ⟨rfl, hb⟩
theorem lit_own (w : World) (cs : Array Value) (l : J.B) (n : Nat) (hn : l.length = n) (e : cs.toList = u8s l) (hm : n ≤ 1000) : (w.alloc (.cells cs 5)).ownsRow w.heap.size 5 1 (.slice (some ⟨w.heap.size, 0, none⟩) n n) n (u8s l) := by
  have := World.ownsRow_lit (base := w.heap.size) (e := 5) (size := 1) w cs n (Nat.le_refl _) (by unfold maxLen; omega) (by rw [← Array.length_toList, e, u8s_len, hn, Nat.mul_one])
  rw [e] at this; exact this
theorem lit_by (w : World) (cs : Array Value) (l : J.B) (n : Nat) (hn : l.length = n) (e : cs.toList = u8s l) (hm : n ≤ 1000) : By (w.alloc (.cells cs 5)) NoM (some ⟨w.heap.size, 0, none⟩) n l := by
  obtain ⟨A, c, e1, _, hb⟩ := ownsRow_by (M := NoM) (lit_own w cs l n hn e hm) (fun _ h => h.elim)
  injection e1 with e1 e2 e3
  rw [e1]; exact hb
theorem sl_by_n {w : World} {M : Nat → Prop} {A : Option Addr} {n c : Nat} {l : J.B} (h : Sl w M (.slice A n c) l) (hn : l.length = n) : By w M A n l := by
  obtain ⟨A', c', e, _, hb⟩ := h.by
  injection e with e1 e2 e3
  subst e1
  rw [← hn]; exact hb
theorem AtL.sub2 {w0 w : World} {p : Nat} {s : J.St} {x : Value × J.B} (h : AtL w0 p s [x] w) : AtL w0 p s [x, x] w := h.sub (fun y hy => by
  simp at hy; rw [hy]; exact List.mem_singleton.2 rfl)
theorem byt_or (kl vl : J.B) (hk : kl.length ≤ 300) (hv : vl.length ≤ 200) {C : List J.Chg} {m : List (J.B × J.B)} (h : (C = [J.bytC kl vl] ∧ m = [(kl, vl)]) ∨ (C = [J.bytC kl vl, J.bytD kl] ∧ m = [])) : (J.record 0 1 C).length ≤ 9000 ∧ (J.encs (J.values m)).length ≤ 9000 ∧ ∀ p ∈ m, p.1.length ≤ 300 := by
  have h1 : (J.encs [J.bytC kl vl]).length ≤ 510 := by rw [J.byt_enc1 kl vl hv]; simp [J.leB_len]; omega
  have h2 : (J.encs [J.bytC kl vl, J.bytD kl]).length ≤ 820 := by rw [J.byt_enc2]; simp [J.leB_len]; omega
  rcases h with ⟨rfl, rfl⟩ | ⟨rfl, rfl⟩
  · refine ⟨by rw [J.record_len]; omega, ?_, fun p hp => by simp at hp; rw [hp]; exact hk⟩
    have : (J.encs (J.values [(kl, vl)])).length ≤ 510 := h1
    omega
  · exact ⟨by rw [J.record_len]; omega, Nat.zero_le _, fun p hp => by cases hp⟩
theorem atl_compact_row {w0 x w : World} {p : Nat} {s s' : J.St} {L : List (Value × J.B)} (h : AtL w0 p s L x) (hb : Below x.heap.size x w) (g : Nat) (hg : x.heap.size ≤ g) (o : Obj) (hgo : w.heap[g]? = some o) (ho : s.opn = false) (hs : CSmall s s.now) (r : Int) (hr : J.compact s s.now = (s', r)) :
    Calls Try.prog 18 #[.pointer (some ⟨p, 0, none⟩)] w fun e w' => e = .returned (.int .i64 r) ∧ AtL w0 p s' L w' ∧ w'.heap[g]? = some o := by
  obtain ⟨M, h1, h2, h3, h4⟩ := h
  have hp := compactS_any p M s w (h1.below hb) ho hs
  rw [hr] at hp
  refine hp.mono ?_
  rintro e w' ⟨rfl, M', hst, hst2⟩
  refine ⟨rfl, AtL.step (fun k hk => ⟨(h2 k hk).1, Nat.lt_of_lt_of_le (h2 k hk).2 hb.size⟩) (h3.trans (hb.mono h3.size)) (fun y hy => (h4 y hy).step (Step.of_below hb)) hst hst2, ?_⟩
  exact (hst2.block g (Array.getElem?_eq_some_iff.1 hgo).1 (fun hm => by have := (h2 g hm).2; omega)).trans hgo
theorem wp_app_by {w : World} {o : Oper} {a : Act} {K : Act → World → Prop} {Q : Exit → Act → World → Prop} (s x : Operand) (ho : o.op = .call { callee := .builtin .append, args := #[s, x], argTypes := #[22, 22] })
    (base : Nat) (v : Value) (n : Nat) (l : List UInt8) (hs : a.eval s = v) (hown : w.ownsRow base 5 1 v n (u8s l)) (M : Nat → Prop) (A : Option Addr) (m c : Nat) (x' : List UInt8) (hx : a.eval x = .slice A m c) (hr : By w M A m x')
    (hb : n + m ≤ 100000000) (hbase : base ≤ w.heap.size)
    (h : ∀ v' w', w'.ownsRow base 5 1 v' (n + m) (u8s (l ++ x')) → w.grownBy w' v.ownBlock → (v'.ownBlock = v.ownBlock ∨ v'.ownBlock = some w.heap.size) → (v' = .slice none 0 0 ↔ v = .slice none 0 0 ∧ m = 0) → K (a.put o.dst v') w') : o.wp Try.prog a w K Q := by
  obtain ⟨v', w', hrun, h2, h3, h4, h5⟩ := run_append_by w base v n l hown M A m c x' hr hb hbase o.type
  unfold Oper.wp execOp
  simp only [ho, resolve, invoke, builtin, Sem.run_bind, Sem.run_pure, Result.andThen_ok, List.map_toArray, List.map_cons, List.map_nil, hs, hx, hrun]
  exact h v' w' h2 h3 h4 h5
/-- The worlds behind both images. -/
structure BytX (w : World) (p : Nat) (U : J.St) (ga gb gl : Nat) (Ia Ib : Array Value) (L : List (Value × J.B)) (X : World) : Prop where
  st : AtL w p U L X
  a : X.heap[ga]? = some (.cells Ia 35 (0, 0))
  b : X.heap[gb]? = some (.cells Ib 35 (0, 0))
  l : By X NoM (some ⟨gl, 0, none⟩) 12 (J.part 1 1)
set_option maxHeartbeats 8000000 in
theorem byt_small (kl vl : J.B) (A : Option Addr) (n c : Nat) (gone : Bool) (w : World) (hk0 : kl ≠ []) (hk : kl.length ≤ 300) (hn : n ≤ 200) (hv : Sl w NoM (.slice A n c) vl) (hvl : vl.length = n) :
    Calls Try.prog 3 #[.string ⟨kl.toArray⟩, .slice A n c, .bool gone] w fun e w' => e = .returned (.bool true) ∧ Below w.heap.size w w' := by
  have HV := Lib.hid hv
  have hks := enc_size kl
  have hkl := enc_key kl hk0
  generalize hkk : (⟨kl.toArray⟩ : ByteArray) = k at hks hkl
  have HKK := Lib.hid hkk
  clear hkk
  have hke : k.toList.isEmpty = false := by cases e : k.toList <;> simp_all
  have hks2 : ¬ (300 : Int) < ((k.size : Nat) : Int) := by rw [hks]; omega
  have hn2 : ¬ (200 : Int) < (n : Int) := by omega
  have q1 : (kl.length : Int).tmod 256 = ((kl.length % 256 : Nat) : Int) := rfl
  have q2 : (kl.length : Int).tdiv 256 = ((kl.length / 256 : Nat) : Int) := rfl
  clear hv
  go_enter Try.func3, Try.ntmps3
  go_wp2_with fail
  refine (at_new w _ (Below.refl _ _)).mono ?_
  rintro e w1 ⟨p, rfl, h1⟩
  have H1 := Lib.hid h1
  clear h1
  go_wp2_with fail
  refine (at_begin H1.out rfl).mono ?_
  rintro e w2 ⟨rfl, h2⟩
  have H2 := Lib.hid h2
  clear h2
  go_wp2_with fail
  have hp := at_put H2.out rfl kl vl (.slice A n c) hk0 hk (by omega) (HV.out.step (Step.of_below H2.out.bel)) 0 (J.byt_put kl vl hk (by omega))
  rw [HKK.out] at hp
  refine hp.mono ?_
  clear hp
  rintro e w3 ⟨rfl, h3⟩
  have H3 := Lib.hid h3
  clear h3
  have hlit1 : u8s ([1] ++ J.leB kl.length 2) = [Value.int .u8 1, .int .u8 ((kl.length : Int) % 256), .int .u8 ((kl.length : Int) / 256)] := by
    rw [J.leB2 _ (by omega)]
    simp only [u8s, List.map_cons, List.map_nil, List.cons_append, List.nil_append]
    rw [u8_lit (kl.length % 256) ((kl.length : Int) % 256) (by omega), u8_lit (kl.length / 256) ((kl.length : Int) / 256) (by omega)]
    rfl
  have hlit2 : u8s [UInt8.ofNat n, 0, 0, 0] = [Value.int .u8 n, .int .u8 0, .int .u8 0, .int .u8 0] := by
    simp only [u8s, List.map_cons, List.map_nil]
    rw [u8_lit n n (by omega)]
    rfl
  have HL1 := Lib.hid (fun W : World => lit_own W #[.int .u8 1, .int .u8 ((kl.length : Int) % 256), .int .u8 ((kl.length : Int) / 256)] ([1] ++ J.leB kl.length 2) 3 rfl hlit1.symm (by decide))
  have HL2 := Lib.hid (fun W : World => lit_by W #[.int .u8 n, .int .u8 0, .int .u8 0, .int .u8 0] [UInt8.ofNat n, 0, 0, 0] 4 rfl hlit2.symm (by decide))
  clear hlit1 hlit2
  go_wp2_with (at_builtin; refine wpList_app_str rfl _ _ rfl w3.heap.size _ 3 _ rfl (HL1.out _) k rfl (by omega) (by simp) ?_)
  intro v4 w4 hown4 hg4
  have hb4 := ((Below.refl w3.heap.size w3).alloc (Nat.le_refl _) (.cells #[.int .u8 1, .int .u8 ((kl.length : Int) % 256), .int .u8 ((kl.length : Int) / 256)] 5)).grown hg4 (by simp) (fun j hj => ((HL1.out w3).lt j hj).1)
  have hd4 : k.data.toList = kl := by rw [← HKK.out]
  have hown4 := rec_row hown4 (l' := ([1] ++ J.leB kl.length 2) ++ kl) (by rw [hd4]; rfl)
  have hlen4 : (([1] ++ J.leB kl.length 2) ++ kl).length ≤ 303 := by simp [J.leB_len]; omega
  have HE := Lib.hid (J.byt_enc1 kl vl (by omega))
  generalize ([1] ++ J.leB kl.length 2) ++ kl = R4 at hown4 hlen4 HE
  have HO4 := Lib.hid hown4
  have HB4 := Lib.hid hb4
  clear hown4 hg4 hb4 hd4
  go_wp2_with (at_builtin; refine wpList_app_by rfl _ _ rfl w3.heap.size v4 R4.length R4 rfl (HO4.out.alloc _) NoM (some ⟨w4.heap.size, 0, none⟩) 4 4 [UInt8.ofNat n, 0, 0, 0] rfl (HL2.out _) (by omega) (by have := HB4.out.size; simp; omega) ?_)
  intro v5 w5 hown5 hg5 hat5 hnil5
  have hb5 := (HB4.out.alloc HB4.out.size (.cells #[.int .u8 n, .int .u8 0, .int .u8 0, .int .u8 0] 5)).grown hg5 (by have := HB4.out.size; simp; omega) (fun j hj => (HO4.out.lt j hj).1)
  have hown5 := rec_row hown5 (l' := R4 ++ [UInt8.ofNat n, 0, 0, 0]) rfl
  have hlen5 : (R4 ++ [UInt8.ofNat n, 0, 0, 0]).length ≤ 307 := by rw [List.length_append]; simp only [List.length_cons, List.length_nil]; omega
  have HE5 := HE.out
  rw [hvl] at HE5
  have HE2 := Lib.hid HE5
  clear HE5 HE
  generalize R4 ++ [UInt8.ofNat n, 0, 0, 0] = R5 at hown5 hlen5 HE2
  have HO5 := Lib.hid hown5
  have HB5 := Lib.hid hb5
  clear hown5 hg5 hb5 hat5 hnil5
  have HY := Lib.hid (sl_by_n HV.out hvl)
  have HB05 := Lib.hid (H3.out.bel.trans (HB5.out.mono H3.out.bel.size))
  go_wp2_with (at_builtin; refine wpList_app_by rfl _ _ rfl w3.heap.size v5 R5.length R5 rfl HO5.out NoM A n c vl rfl (HY.out.below HB05.out) (by omega) HB5.out.size ?_)
  intro v6 w6 hown6 hg6 hat6 hnil6
  have hb6 := HB5.out.grown hg6 HB5.out.size (fun j hj => (HO5.out.lt j hj).1)
  have hown6 := rec_row hown6 (l' := J.encs [J.bytC kl vl]) HE2.out
  have hsl6 : Sl w6 (· < w3.heap.size) v6 (J.encs [J.bytC kl vl]) := own_sl hown6 (fun k hk => hk)
  have hel : (J.encs [J.bytC kl vl]).length ≤ 510 := by rw [HE2.out, List.length_append]; omega
  have HA6 := Lib.hid (H3.out.l.add hb6 hsl6)
  obtain ⟨A6, c6, rfl⟩ := hsl6.slice_
  clear hown6 hg6 hat6 hnil6 hb6 hsl6 HO5 HB5 HO4 HB4 HY HB05 H3 HE2 hlen5 hlen4 H1 H2
  go_upto_if 61 with fail
  go_cut [8, 9] from 62 to 80 (fun r kp wx => ∃ S C m, J.BytF S C m ∧ AtL w p S [(r, J.encs C), (kp, J.encs (J.values m))] wx ∧ ((C = [J.bytC kl vl] ∧ m = [(kl, vl)]) ∨ (C = [J.bytC kl vl, J.bytD kl] ∧ m = [])))
  case first =>
    cases gone with
    | false =>
      go_wp2_with fail
      go_meet
      case rel => exact ⟨_, _, _, J.bytF1 kl vl, HA6.out.sub2, .inl ⟨rfl, rfl⟩⟩
    | true =>
      have hlit3 : u8s ([0] ++ J.leB kl.length 2) = [Value.int .u8 0, .int .u8 ((kl.length : Int) % 256), .int .u8 ((kl.length : Int) / 256)] := by
        rw [J.leB2 _ (by omega)]
        simp only [u8s, List.map_cons, List.map_nil, List.cons_append, List.nil_append]
        rw [u8_lit (kl.length % 256) ((kl.length : Int) % 256) (by omega), u8_lit (kl.length / 256) ((kl.length : Int) / 256) (by omega)]
        rfl
      have HL3 := Lib.hid (fun W : World => lit_by W #[.int .u8 0, .int .u8 ((kl.length : Int) % 256), .int .u8 ((kl.length : Int) / 256)] ([0] ++ J.leB kl.length 2) 3 rfl hlit3.symm (by decide))
      clear hlit3
      go_wp2_with fail
      have hp := atl_delete HA6.out kl (by omega) 0 (J.byt_del kl vl hk (by omega))
      rw [HKK.out] at hp
      refine hp.mono ?_
      clear hp
      rintro e w7 ⟨rfl, h7⟩
      have H7 := Lib.hid h7
      have hby7 := sl_by_n (h7.sl (List.mem_singleton.2 rfl)) rfl
      have HY7 := Lib.hid hby7
      have HR7 := Lib.hid (lit_own w7 #[] [] 0 rfl rfl (by decide))
      have HE3 := Lib.hid (J.byt_enc2 kl vl)
      clear h7 hby7 HA6
      go_wp2_with (at_builtin; refine wpList_app_by rfl _ _ rfl w7.heap.size _ 0 [] rfl HR7.out NoM A6 (J.encs [J.bytC kl vl]).length c6 (J.encs [J.bytC kl vl]) rfl (HY7.out.alloc _) (by omega) (by simp) ?_)
      intro v8 w8 hown8 hg8 hat8 hnil8
      have hb8 := ((Below.refl w7.heap.size w7).alloc (Nat.le_refl _) (.cells #[] 5)).grown hg8 (by simp) (fun j hj => (HR7.out.lt j hj).1)
      have hown8 := rec_row hown8 (l' := (J.encs [J.bytC kl vl])) rfl
      have HO8 := Lib.hid hown8
      have HB8 := Lib.hid hb8
      clear hown8 hg8 hat8 hnil8 hb8 HR7 HY7
      go_wp2_with (at_builtin; refine wpList_app_by rfl _ _ rfl w7.heap.size v8 (J.encs [J.bytC kl vl]).length (J.encs [J.bytC kl vl]) rfl (HO8.out.alloc _) NoM (some ⟨w8.heap.size, 0, none⟩) 3 3 ([0] ++ J.leB kl.length 2) rfl (HL3.out _) (by omega) (by have := HB8.out.size; simp; omega) ?_)
      intro v9 w9 hown9 hg9 hat9 hnil9
      have hb9 := (HB8.out.alloc HB8.out.size (.cells #[.int .u8 0, .int .u8 ((kl.length : Int) % 256), .int .u8 ((kl.length : Int) / 256)] 5)).grown hg9 (by have := HB8.out.size; simp; omega) (fun j hj => (HO8.out.lt j hj).1)
      have hown9 := rec_row hown9 (l' := (J.encs [J.bytC kl vl]) ++ ([0] ++ J.leB kl.length 2)) rfl
      have hlen9 : ((J.encs [J.bytC kl vl]) ++ ([0] ++ J.leB kl.length 2)).length ≤ 520 := by simp [J.leB_len]; omega
      generalize (J.encs [J.bytC kl vl]) ++ ([0] ++ J.leB kl.length 2) = R9 at hown9 hlen9 HE3
      have HO9 := Lib.hid hown9
      have HB9 := Lib.hid hb9
      clear hown9 hg9 hat9 hnil9 hb9
      go_wp2_with (at_builtin; refine wpList_app_str rfl _ _ rfl w7.heap.size v9 R9.length R9 rfl HO9.out k rfl (by omega) HB9.out.size ?_)
      intro v10 w10 hown10 hg10
      have hb10 := HB9.out.grown hg10 HB9.out.size (fun j hj => (HO9.out.lt j hj).1)
      have hown10 := rec_row hown10 (l' := J.encs [J.bytC kl vl, J.bytD kl]) (by rw [HE3.out, ← HKK.out])
      have hsl10 : Sl w10 (· < w7.heap.size) v10 (J.encs [J.bytC kl vl, J.bytD kl]) := own_sl hown10 (fun k hk => hk)
      have HA10 := Lib.hid (((H7.out.add hb10 hsl10).sub (L' := [(v10, J.encs [J.bytC kl vl, J.bytD kl])]) (fun y hy => by simp at hy; rw [hy]; exact List.mem_cons_self)).add (Below.refl _ _) (v := .slice none 0 0) (l := []) Sl.nil_)
      clear hown10 hg10 hb10 hsl10 HO9 HB9 H7
      go_wp2_with fail
      go_meet
      case rel => exact ⟨_, _, _, J.bytF2 kl vl, HA10.out.sub (fun y hy => by simp only [List.mem_cons] at hy ⊢; exact hy.elim (fun h => .inr (.inl h)) (fun h => .inl (h.elim id (fun h => by cases h)))), .inr ⟨rfl, rfl⟩⟩
  case rest =>
    obtain ⟨S, C, m, hF, hA, hor⟩ := hcut
    have HA := Lib.hid hA
    have HF := Lib.hid hF
    obtain ⟨hc1, hm1, hm2⟩ : (J.record 0 1 C).length ≤ 9000 ∧ (J.encs (J.values m)).length ≤ 9000 ∧ ∀ p ∈ m, p.1.length ≤ 300 := byt_or kl vl hk (by omega) hor
    clear hA hF hor
    go_wp2_with fail
    refine (atl_commit HA.out HF.out.opn HF.out.sp (J.byt_csmall HF.out) (by rw [HF.out.com]; decide) (by rw [HF.out.ar]; decide) (J.byt_fit HF.out hc1) 1 0 (J.byt_commit HF.out hc1)).mono ?_
    rintro e x1 ⟨rfl, g1⟩
    have HG := Lib.hid (J.bytG HF.out)
    generalize J.committed S = T at g1 HG
    have G1 := Lib.hid g1
    obtain ⟨Ar, cr, er, _, hbr⟩ := (g1.sl (List.mem_cons_self ..)).by
    subst er
    have HBR := Lib.hid hbr
    have HRL := Lib.hid (J.lrec_record 0 1 C)
    have HRM := Lib.hid (J.lrec_record 1 1 (J.values m))
    have hcl : (J.encs C).length ≤ 9000 := by rw [J.record_len] at hc1; omega
    clear g1 hbr HA HF
    generalize J.record 0 1 C = R0 at HG HRL hc1
    have HC1 := Lib.hid hc1
    have HM1 := Lib.hid hm1
    clear hc1 hm1
    go_wp2_with fail
    refine (lrec_any 0 1 Ar (J.encs C).length cr (J.encs C) x1 HBR.out (by decide) (by decide) (by omega)).mono ?_
    rintro e x2 ⟨v12, rfl, hown12, hb12⟩
    rw [HRL.out] at hown12
    have hsl12 : Sl x2 (· < x1.heap.size) v12 (R0) := own_sl hown12 (fun k hk => hk)
    have G2 := Lib.hid (G1.out.add hb12 hsl12)
    obtain ⟨A12, c12, rfl⟩ := hsl12.slice_
    clear hown12 hb12 hsl12 HBR
    go_wp2_with fail
    refine (atl_image G2.out).mono ?_
    rintro e x3 ⟨A0, A1, A2, A3, n0, n1, n2, n3, c0, c1, c2, c3, rfl, z0, z1, z2, z3, g3, _⟩
    rw [HG.out.disk] at z0 z1 z2 z3 g3
    obtain rfl : n0 = 0 := z0
    obtain rfl : n1 = 0 := z1
    obtain rfl : n2 = R0.length := z2
    obtain rfl : n3 = 0 := z3
    have G3 := Lib.hid g3
    clear g3 G2
    have hB3 := (Below.refl _ x3).alloc (Nat.le_refl _) (.cells #[.slice A0 0 c0, .slice A1 0 c1, .slice A2 R0.length c2, .slice A3 0 c3] 35)
    have HB3 := Lib.hid hB3
    clear hB3
    go_wp2_with fail
    refine (atl_compact_row G3.out HB3.out x3.heap.size (Nat.le_refl _) _ (heap_alloc_new _ _) HG.out.opn (J.bytG_csmall HG.out HM1.out hm2) 0 (J.byt_compact HG.out HC1.out HM1.out)).mono ?_
    rintro e x4 ⟨rfl, g4, ha4⟩
    obtain ⟨hD, hW4⟩ := J.byt_disk HG.out
    generalize J.compacted T T.now = U at g4 hD hW4
    have HD := Lib.hid hD
    have HW := Lib.hid hW4
    have G4 := Lib.hid g4
    have HA4 := Lib.hid ha4
    clear hD hW4 g4 ha4 HB3 G3 G1 HG
    go_wp2_with fail
    refine (atl_image G4.out).mono ?_
    rintro e x5 ⟨B0, B1, B2, B3, k0, k1, k2, k3, d0, d1, d2, d3, rfl, y0, y1, y2, y3, g5, hb45⟩
    rw [HD.out] at y0 y1 y2 y3 g5
    have hpl : (J.part 1 1 ++ J.part 1 1).length = 24 := rfl
    obtain rfl : k0 = 24 := y0
    obtain rfl : k1 = 0 := y1
    obtain rfl : k2 = R0.length := y2
    have HRM2 := Lib.hid HRM.out
    generalize J.record 1 1 (J.values m) = R1 at y3 g5 HRM2 HD
    obtain rfl : k3 = R1.length := y3
    clear hpl
    have G5 := Lib.hid g5
    have HA5 := Lib.hid ((hb45.block _ (Array.getElem?_eq_some_iff.1 HA4.out).1).trans HA4.out)
    have hB5 := (Below.refl _ x5).alloc (Nat.le_refl _) (.cells #[.slice B0 24 d0, .slice B1 0 d1, .slice B2 R0.length d2, .slice B3 R1.length d3] 35)
    have HB5 := Lib.hid hB5
    clear g5 G4 HA4 hb45 hB5
    go_upto_region 20 with fail
    have hlit : By ((x5.alloc (.cells #[.slice B0 24 d0, .slice B1 0 d1, .slice B2 R0.length d2, .slice B3 R1.length d3] 35)).alloc (.cells #[.int .u8 1, .int .u8 0, .int .u8 0, .int .u8 0, .int .u8 0, .int .u8 0, .int .u8 0, .int .u8 0, .int .u8 1, .int .u8 0, .int .u8 0, .int .u8 0] 5)) NoM (some ⟨x5.heap.size + 1, 0, none⟩) 12 (J.part 1 1) := by
      have := lit_by (x5.alloc (.cells #[.slice B0 24 d0, .slice B1 0 d1, .slice B2 R0.length d2, .slice B3 R1.length d3] 35)) #[.int .u8 1, .int .u8 0, .int .u8 0, .int .u8 0, .int .u8 0, .int .u8 0, .int .u8 0, .int .u8 0, .int .u8 1, .int .u8 0, .int .u8 0, .int .u8 0] (J.part 1 1) 12 rfl rfl (by decide)
      simpa using this
    have hB56 : Below x5.heap.size x5 ((x5.alloc (.cells #[.slice B0 24 d0, .slice B1 0 d1, .slice B2 R0.length d2, .slice B3 R1.length d3] 35)).alloc (.cells #[.int .u8 1, .int .u8 0, .int .u8 0, .int .u8 0, .int .u8 0, .int .u8 0, .int .u8 0, .int .u8 0, .int .u8 1, .int .u8 0, .int .u8 0, .int .u8 0] 5)) := HB5.out.alloc HB5.out.size _
    have hgb := (Below.heap_alloc (x5.alloc (.cells #[.slice B0 24 d0, .slice B1 0 d1, .slice B2 R0.length d2, .slice B3 R1.length d3] 35)) (.cells #[.int .u8 1, .int .u8 0, .int .u8 0, .int .u8 0, .int .u8 0, .int .u8 0, .int .u8 0, .int .u8 0, .int .u8 1, .int .u8 0, .int .u8 0, .int .u8 0] 5) x5.heap.size (by simp)).trans (heap_alloc_new x5 _)
    refine at_world (fun X => BytX w p U x3.heap.size x5.heap.size (x5.heap.size + 1) #[.slice A0 0 c0, .slice A1 0 c1, .slice A2 R0.length c2, .slice A3 0 c3] #[.slice B0 24 d0, .slice B1 0 d1, .slice B2 R0.length d2, .slice B3 R1.length d3] _ X) ⟨G5.out.below hB56, (hB56.block _ (Array.getElem?_eq_some_iff.1 HA5.out).1).trans HA5.out, hgb, hlit⟩ ?_
    intro x6 hX
    have HX := Lib.hid hX
    clear hX hlit hB56 hgb HB5 HA5 G5
    generalize x3.heap.size = ga at HX
    generalize x5.heap.size + 1 = gl at HX
    generalize x5.heap.size = gb at HX
    have HS : Hid (∀ w', Below x6.heap.size x6 w' → (∀ j, w'.cell? ⟨ga, j, none⟩ = (#[Value.slice A0 0 c0, .slice A1 0 c1, .slice A2 R0.length c2, .slice A3 0 c3] : Array Value)[j]?) ∧ (∀ j, w'.cell? ⟨gb, j, none⟩ = (#[Value.slice B0 24 d0, .slice B1 0 d1, .slice B2 R0.length d2, .slice B3 R1.length d3] : Array Value)[j]?) ∧
        (convert 22 9 (.slice A2 R0.length c2)).run Try.prog w' = .ok (.string ⟨R0.toArray⟩) w' ∧ (convert 22 9 (.slice A12 R0.length c12)).run Try.prog w' = .ok (.string ⟨R0.toArray⟩) w' ∧ (convert 22 9 (.slice B3 R1.length d3)).run Try.prog w' = .ok (.string ⟨R1.toArray⟩) w' ∧ (convert 22 9 (.slice B2 R0.length d2)).run Try.prog w' = .ok (.string ⟨R0.toArray⟩) w' ∧ (convert 22 9 (.slice B0 24 d0)).run Try.prog w' = .ok (.string ⟨(J.part 1 1 ++ J.part 1 1).toArray⟩) w') := Lib.hid (fun w' hb => by
      have hL := HX.out.st.below hb
      have hcv : ∀ {A : Option Addr} {n c : Nat} {l : J.B}, (Value.slice A n c, l) ∈ _ → l.length = n → (convert 22 9 (.slice A n c)).run Try.prog w' = .ok (.string ⟨l.toArray⟩) w' := fun hm hn => run_str_by (sl_by_n (hL.sl hm) hn)
      refine ⟨fun j => cell_of_row w' ga j _ _ _ ((hb.block _ (Array.getElem?_eq_some_iff.1 HX.out.a).1).trans HX.out.a), fun j => cell_of_row w' gb j _ _ _ ((hb.block _ (Array.getElem?_eq_some_iff.1 HX.out.b).1).trans HX.out.b), hcv (by simp) rfl, hcv (by simp) rfl, hcv (by simp) rfl, hcv (by simp) rfl, hcv (l := J.part 1 1 ++ J.part 1 1) (by simp) rfl⟩)
    obtain ⟨Ak, ck, ek, _, hbk⟩ := (HX.out.st.sl (v := u9) (l := J.encs (J.values m)) (by simp)).by
    subst ek
    have HBK := Lib.hid hbk
    clear hbk
    obtain ⟨P2, HP2⟩ : ∃ P2, Hid (J.part 1 1 ++ J.part 1 1 = P2) := ⟨_, Lib.hid rfl⟩
    rw [HP2.out] at HS
    have hwz : IntKind.i64.wrap (IntKind.i64.wrap 0) = 0 := by rfl
    refine wp_region_plan 83 [(0, false), (1, false), (2, false), (3, false), (4, false), (5, false), (6, false), (7, false), (8, false), (9, false), (10, false), (11, false), (12, false), (13, false), (14, false), (15, false), (16, false), (17, false), (18, false), (19, false), (20, false), (21, false), (22, false), (23, false), (24, false), (25, false), (26, false), (27, false), (28, false), (29, false), (30, false), (31, false), (32, false), (33, false), (34, false), (35, false), (36, false), (37, false), (38, false), (39, false), (40, false), (41, false), (42, true), (43, true), (44, false), (45, false), (46, false), (47, false), (48, false), (49, false), (50, false), (51, false), (52, false), (53, false), (54, false), (55, false), (56, false), (57, false), (58, false), (59, false), (61, false), (63, false), (60, true), (62, true), (64, true), (65, true), (66, false), (67, false), (68, false), (69, false), (70, false), (71, false), (72, false), (73, false), (74, false), (75, false), (76, false), (77, true), (78, false), (79, false), (80, false), (81, true), (82, false)] (fun w' => Below x6.heap.size x6 w') (by kernel_rfl) (by kernel_rfl) (fun c a d v w h => by cases d <;> exact h) (Below.refl _ x6).drew ?_
    repeat
      first
      | refine wpPlan_read (v := ?_) (by rfl) (by rfl) (fun w' hS => ?_) (fun K hK => ?_)
        rotate_left
        · obtain ⟨hca, hcb, e1, e2, e3, e4, e5⟩ := HS.out w' hS
          clear hS
          go_simp
          try with_reducible rfl
        go_simp
        refine hK _ ?_
        clear hK K
      | refine wpPlan_readG (v := ?_) (by rfl) (by rfl) (fun w' hS => ?_) (fun K hK => ?_)
        rotate_left
        · obtain ⟨hca, hcb, e1, e2, e3, e4, e5⟩ := HS.out w' hS
          clear hS
          go_simp
          try with_reducible rfl
        go_simp
        refine hK _ ?_
        clear hK K
    refine wpPlan_write (by rfl) (fun K hK => ?_)
    go_simp
    refine (lrec_any 1 1 Ak (J.encs (J.values m)).length ck (J.encs (J.values m)) x6.drew HBK.out (by decide) (by decide) (by have := HM1.out; omega)).mono ?_
    rintro e x7 ⟨v7, rfl, hown7, hb7⟩
    rw [HRM2.out] at hown7
    have hb7 : Below x6.heap.size x6 x7 := ⟨hb7.os, hb7.tape, hb7.output, hb7.size, hb7.block⟩
    obtain ⟨A7, c7, e7, _, hby7⟩ := ownsRow_by hown7 (M := NoM) (fun _ h => h.elim)
    subst e7
    have hcv := run_str_by (c := c7) hby7
    have HB7 := Lib.hid hb7
    clear hown7 hb7 hby7
    refine hK.out _ _ HB7.out ?_
    clear hK K
    refine wpPlan_write (by rfl) (fun K hK => ?_)
    go_simp
    refine hK.out _ _ HB7.out ?_
    clear hK K hcv
    repeat
      first
      | refine wpPlan_read (v := ?_) (by rfl) (by rfl) (fun w' hS => ?_) (fun K hK => ?_)
        rotate_left
        · obtain ⟨hca, hcb, e1, e2, e3, e4, e5⟩ := HS.out w' hS
          clear hS
          go_simp
          try with_reducible rfl
        go_simp
        refine hK _ ?_
        clear hK K
      | refine wpPlan_readG (v := ?_) (by rfl) (by rfl) (fun w' hS => ?_) (fun K hK => ?_)
        rotate_left
        · obtain ⟨hca, hcb, e1, e2, e3, e4, e5⟩ := HS.out w' hS
          clear hS
          go_simp
          try with_reducible rfl
        go_simp
        refine hK _ ?_
        clear hK K
    have HR7 := Lib.hid (lit_own x7 #[] [] 0 rfl rfl (by decide))
    refine wpPlan_write (by rfl) (fun K hK => ?_)
    go_simp
    refine hK.out _ _ (HB7.out.alloc HB7.out.size _) ?_
    clear hK K
    refine wpPlan_write (by rfl) (fun K hK => ?_)
    refine (if_pos (by rfl)).mpr ?_
    refine wp_app_by _ _ (by rfl) x7.heap.size (.slice (some ⟨x7.heap.size, 0, none⟩) 0 0) 0 [] (by rfl) HR7.out NoM (some ⟨gl, 0, none⟩) 12 12 (J.part 1 1) (by rfl) (HX.out.l.below (HB7.out.alloc HB7.out.size _)) (by decide) (by simp) ?_
    intro v8 x8 hown8 hg8 hat8 hnil8
    have hb8 := (HB7.out.alloc HB7.out.size (.cells #[] 5)).grown hg8 (by have := HB7.out.size; simp; omega) (fun j hj => Nat.le_trans HB7.out.size ((HR7.out.lt j hj).1))
    have hown8 := rec_row hown8 (l' := J.part 1 1) rfl
    have HB8 := Lib.hid hb8
    have HO8 := Lib.hid hown8
    have hbz : x7.heap.size ≤ x8.heap.size := Nat.le_trans (by simp) hg8.size
    clear hown8 hg8 hat8 hnil8 hb8
    refine hK.out _ _ HB8.out ?_
    clear hK K
    refine wpPlan_write (by rfl) (fun K hK => ?_)
    refine (if_pos (by rfl)).mpr ?_
    refine wp_app_by _ _ (by rfl) x7.heap.size v8 12 (J.part 1 1) (by rfl) HO8.out NoM (some ⟨gl, 0, none⟩) 12 12 (J.part 1 1) (by rfl) (HX.out.l.below HB8.out) (by decide) hbz ?_
    intro v9 x9 hown9 hg9 hat9 hnil9
    have hb9 := HB8.out.grown hg9 HB8.out.size (fun j hj => Nat.le_trans HB7.out.size ((HO8.out.lt j hj).1))
    have hown9 := rec_row hown9 (l' := P2) HP2.out.symm
    obtain ⟨A9, c9, e9, _, hby9⟩ := ownsRow_by hown9 (M := NoM) (fun _ h => h.elim)
    subst e9
    have hcv := run_str_by (c := c9) hby9
    have HB9 := Lib.hid hb9
    clear hown9 hg9 hat9 hnil9 hb9 hby9 hbz HB8 HO8 HR7 HB7
    refine hK.out _ _ HB9.out ?_
    clear hK K
    go_simp
    refine wpPlan_write (by rfl) (fun K hK => ?_)
    go_simp
    refine hK.out _ _ HB9.out ?_
    clear hK K hcv
    repeat
      first
      | refine wpPlan_read (v := ?_) (by rfl) (by rfl) (fun w' hS => ?_) (fun K hK => ?_)
        rotate_left
        · obtain ⟨hca, hcb, e1, e2, e3, e4, e5⟩ := HS.out w' hS
          clear hS
          go_simp
          try with_reducible rfl
        go_simp
        refine hK _ ?_
        clear hK K
      | refine wpPlan_readG (v := ?_) (by rfl) (by rfl) (fun w' hS => ?_) (fun K hK => ?_)
        rotate_left
        · obtain ⟨hca, hcb, e1, e2, e3, e4, e5⟩ := HS.out w' hS
          clear hS
          go_simp
          try with_reducible rfl
        go_simp
        refine hK _ ?_
        clear hK K
    have hwr := at_writes (HX.out.st.at.below HB9.out)
    rw [HW.out] at hwr
    refine wpPlan_write (by rfl) (fun K hK => ?_)
    go_simp
    refine hwr.mono ?_
    clear hwr
    rintro e Y ⟨rfl, hY⟩
    obtain rfl : x9 = Y := hY
    refine hK.out _ _ HB9.out ?_
    clear hK K
    repeat
      first
      | refine wpPlan_read (v := ?_) (by rfl) (by rfl) (fun w' hS => ?_) (fun K hK => ?_)
        rotate_left
        · obtain ⟨hca, hcb, e1, e2, e3, e4, e5⟩ := HS.out w' hS
          clear hS
          go_simp
          try with_reducible rfl
        go_simp
        refine hK _ ?_
        clear hK K
      | refine wpPlan_readG (v := ?_) (by rfl) (by rfl) (fun w' hS => ?_) (fun K hK => ?_)
        rotate_left
        · obtain ⟨hca, hcb, e1, e2, e3, e4, e5⟩ := HS.out w' hS
          clear hS
          go_simp
          try with_reducible rfl
        go_simp
        refine hK _ ?_
        clear hK K
    refine wpPlan_write (by rfl) (fun K hK => ?_)
    go_simp
    refine (lives_any x9).mono ?_
    rintro e x10 ⟨rfl, hb10⟩
    have HB10 := Lib.hid (HB9.out.trans (hb10.mono HB9.out.size))
    clear hb10
    refine hK.out _ _ HB10.out ?_
    clear hK K
    repeat
      first
      | refine wpPlan_read (v := ?_) (by rfl) (by rfl) (fun w' hS => ?_) (fun K hK => ?_)
        rotate_left
        · obtain ⟨hca, hcb, e1, e2, e3, e4, e5⟩ := HS.out w' hS
          clear hS
          go_simp
          try with_reducible rfl
        go_simp
        refine hK _ ?_
        clear hK K
      | refine wpPlan_readG (v := ?_) (by rfl) (by rfl) (fun w' hS => ?_) (fun K hK => ?_)
        rotate_left
        · obtain ⟨hca, hcb, e1, e2, e3, e4, e5⟩ := HS.out w' hS
          clear hS
          go_simp
          try with_reducible rfl
        go_simp
        refine hK _ ?_
        clear hK K
    have HBE := Lib.hid (HX.out.st.at.bel.trans (HB10.out.mono HX.out.st.at.bel.size))
    clear HS HX HB9 HB10
    show wpList _ _ _ _ _ _
    go_wp2_with fail
    go_ret
    exact ⟨rfl, HBE.out⟩
end Go.Proofs.Ythjjbaiijelhnaa
