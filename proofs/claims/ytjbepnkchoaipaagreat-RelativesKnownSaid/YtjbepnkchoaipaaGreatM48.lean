import Derived.Test.YtjbepnkchoaipaaGreatM47
import Derived.Test.YtjbepnkchoaipaaGreatM42
set_option linter.unusedVariables false
set_option linter.unusedSimpArgs false
/- Law 31: RelativesActs returns true. -/
namespace Go.Proofs.YtjbepnkchoaipaaGreat
open Go.RowKit Go.Lib Go.Maps Go.WideMaps Go.Sort
set_option maxRecDepth 100000
section
variable {w0 : World} {p pf q : Nat} {nm : J.B} {u : Nat} {fs rb : List (Nat × Obj)} {mf mm m : R.M} {L : List (List (J.B × J.B))} {v : Value} {w w' : World}
theorem D3.bel (h : D3 w0 p pf nm u q fs mf mm L v rb w) : Below w0.heap.size w0 w := by
  obtain ⟨⟨s, h1, _⟩, _⟩ := h
  exact h1.bel
theorem D3.rws (h : D3 w0 p pf nm u q fs mf mm L v rb w) : Rws w NoM v mm.rows := by
  obtain ⟨⟨s, h1, _⟩, h2, _⟩ := h
  rcases h2 with ⟨e1, e2, _⟩ | ⟨g, c, o, e1, e2, e3, e4⟩
  · exact .inl ⟨e1, e2⟩
  · have hw := h1.get (List.mem_cons_of_mem _ (List.mem_cons_of_mem _ (List.mem_append_left _ (by rw [e3]; exact List.mem_singleton_self _ : (g, o) ∈ rb))))
    exact .inr ⟨g, c, e1, e2, (Array.getElem?_eq_some_iff.1 hw).1, fun h => h, e4 w hw⟩
theorem D3.lies (h : D3 w0 p pf nm u q fs m m L v rb w) (hu : u ≤ 340) :
    Calls Tryz.prog 19 #[.pointer (some ⟨p, 0, none⟩), .string ⟨nm.toArray⟩, .bool m.there, v] w fun e w' => e = .returned (.bool true) ∧ Below w.heap.size w w' := by
  have hv := h.rws
  obtain ⟨⟨s, h1, h2, _, h4⟩, _⟩ := h
  exact lies_any h1 h2.mok (by omega) h2.sto.now h4 v hv
theorem D3.row' (h : D3 w0 p pf nm u q fs mf mm L v rb w) : w.heap[pf]? = some (fileO p nm mf.rel mf.size mf.mode mf.next mf.last) := h.1.row
theorem src_old {b : J.B} {Av : Option Addr} {cv : Nat} (h : Sl w0 NoM (.slice Av b.length cv) b) : ∀ fs, Src w0 p fs (.slice Av b.length cv) b := fun fs gs t w1 _ ha => h.step (Step.of_below ha.bel)
theorem ActsAt.below {A : Option Addr} {L : List R.Ac} (h : ActsAt w NoM A L) (hb : Below w.heap.size w w') : ActsAt w' NoM A L := h.step (Step.of_below hb)
end
theorem acts31_lives (rel : Bool) (sz : Nat) (A : Option Addr) (c : Nat) (L : List R.Ac) (w : World) (ha : ActsAt w NoM A L) (hl : L.length ≤ 9223372036854775807) (hv : ∀ a ∈ L, a.val.length ≤ 9223372036854775807) (h : 200 < R.units L) :
    Calls Tryz.prog 4 #[.agg #[.bool rel, .int .u8 sz, .slice A L.length c]] w fun e w' => e = .returned (.bool true) ∧ Below w.heap.size w w' := by
  have hbox := heap_alloc_new w (.cells #[.bool rel, .int .u8 sz, .slice A L.length c] 46)
  have hcb := fun j => cell_of_row _ w.heap.size j _ _ _ hbox
  have HB0 := Lib.hid ((Below.refl w.heap.size w).alloc (Nat.le_refl _) (.cells #[.bool rel, .int .u8 sz, .slice A L.length c] 46))
  have hbg := big_any A c L 200 (w.alloc (.cells #[.bool rel, .int .u8 sz, .slice A L.length c] 46)) (ha.below HB0.out) (by decide) hl hv
  rw [decide_eq_true h] at hbg
  have HB := Lib.hid hbg
  have HL := Lib.hid (fun W => lives_any W)
  clear ha hl hv hbg h hbox
  go_enter Tryz.func4, Tryz.ntmps4
  go_wp2_with fail
  refine HB.out.mono ?_
  rintro e Y ⟨rfl, rfl⟩
  go_wp2_with fail
  refine (HL.out _).mono ?_
  rintro e w1 ⟨rfl, hb⟩
  have HB1 := Lib.hid (HB0.out.trans (hb.mono HB0.out.size))
  clear hb HL HB HB0 hcb
  go_wp2
  go_ret
  exact ⟨rfl, HB1.out⟩
/-- What holds at the beginning of a round. -/
def AcsI (w1 : World) (p pf q k : Nat) (W : World) : Prop := ∃ m L v rb, D3 w1 p pf [102] k q [] m m L v rb W
set_option maxHeartbeats 4000000 in
theorem acts31_small (rel : Bool) (sz : Nat) (hsz : sz < 256) (A : Option Addr) (c : Nat) (L : List R.Ac) (w : World) (ha : ActsAt w NoM A L) (hu : R.units L ≤ 200) :
    Calls Tryz.prog 4 #[.agg #[.bool rel, .int .u8 sz, .slice A L.length c]] w fun e w' => e = .returned (.bool true) ∧ Below w.heap.size w w' := by
  have hll : L.length ≤ 200 := Nat.le_trans (R.units_len L) hu
  have hbox := heap_alloc_new w (.cells #[.bool rel, .int .u8 sz, .slice A L.length c] 46)
  have hcb := fun j => cell_of_row _ w.heap.size j _ _ _ hbox
  have HB0 := Lib.hid ((Below.refl w.heap.size w).alloc (Nat.le_refl _) (.cells #[.bool rel, .int .u8 sz, .slice A L.length c] 46))
  have hvl : ∀ a ∈ L, a.val.length ≤ 1600 := fun a h => by have := R.units_le L a h; omega
  have HBG := Lib.hid (big_any A c L 200 (w.alloc (.cells #[.bool rel, .int .u8 sz, .slice A L.length c] 46)) (ha.below HB0.out) (by decide) (by omega) (fun a h => by have := hvl a h; omega))
  rw [decide_eq_false (by omega)] at HBG
  have HA := Lib.hid (ha.below HB0.out)
  have HVL := Lib.hid hvl
  have HL := Lib.hid (fun W => lives_any W)
  have HBL := Lib.hid (show w.heap.size < (w.alloc (.cells #[.bool rel, .int .u8 sz, .slice A L.length c] 46)).heap.size by simp)
  clear ha hu hbox hvl
  go_enter Tryz.func4, Tryz.ntmps4
  go_wp2_with fail
  refine HBG.out.mono ?_
  rintro e Y ⟨rfl, rfl⟩
  clear HBG
  generalize w.alloc (.cells #[.bool rel, .int .u8 sz, .slice A L.length c] 46) = wa at HB0 HA HBL hcb ⊢
  go_wp2_with fail
  refine (made_any rel sz hsz A L.length c _).mono ?_
  rintro e w2 ⟨w1, hb1, p, pf, q, rfl, hd⟩
  have HCB := Lib.hid (fun (j : Nat) => (hb1.cell (p := ⟨w.heap.size, j, none⟩) HBL.out).trans (hcb j))
  have HA1 := Lib.hid (HA.out.below hb1)
  have HI0 := Lib.hid (show AcsI w1 p pf q 0 w2 from ⟨_, _, _, _, hd⟩)
  have HBW := Lib.hid (HB0.out.trans (hb1.mono HB0.out.size))
  have HBL1 := Lib.hid (Nat.lt_of_lt_of_le HBL.out hb1.size)
  clear hb1 hd hcb HA HB0 HBL
  go_wp2
  go_loopw [6] (fun i W => ∃ k : Nat, k ≤ L.length ∧ i = .int .i64 k ∧ Hid (AcsI w1 p pf q k W)) (fun i _ => L.length - (intOf i).toNat)
  case atStart => exact ⟨0, Nat.zero_le _, rfl, HI0⟩
  case round =>
    clear HI0
    obtain ⟨k, hk, rfl, HI⟩ := hrel
    obtain ⟨m, Lc, v, rb, hd⟩ := HI.out
    have HD := Lib.hid hd
    have hcb := fun (j : Nat) => (hd.bel.cell (p := ⟨w.heap.size, j, none⟩) HBL1.out).trans (HCB.out j)
    by_cases hlt : k < L.length
    · obtain ⟨ba, oa, rfl, hba, _, hcs⟩ := HA1.out (by omega)
      obtain ⟨h0, h1, ⟨va, h2, hsl⟩, hw8, hn16⟩ := hcs k hlt
      obtain ⟨Av, cv, rfl, _, hby⟩ := hsl.by
      have hdr := hd.below ((Below.refl _ wr).drew)
      have hin : DoIn w1 p pf [102] k q [] m Lc v rb L[k].n Av cv L[k].val wr.drew := ⟨hdr, by omega, src_old hsl, hby.below hdr.bel, hn16, by have := HVL.out _ (List.getElem_mem hlt); omega⟩
      have HDO := Lib.hid (does_any L[k] Av cv wr.drew hin)
      have HAC := Lib.hid (fun (w' : World) (hS : Below w1.heap.size w1 w') => And.intro ((hS.cell (p := ⟨ba, oa + k * 3, none⟩) hba).trans h0) (And.intro ((hS.cell (p := ⟨ba, oa + k * 3 + 1, none⟩) hba).trans h1) ((hS.cell (p := ⟨ba, oa + k * 3 + 2, none⟩) hba).trans h2)))
      have HCX := Lib.hid (fun (w' : World) (hS : Below w1.heap.size w1 w') (j : Nat) => (hS.cell (p := ⟨w.heap.size, j, none⟩) HBL1.out).trans (HCB.out j))
      have HBR := Lib.hid hdr.bel
      have HLT := Lib.hid hlt
      clear hcs h0 h1 h2 hsl hby hdr hin hd HD hba hw8 hn16 HI
      generalize L[k] = a at HDO HAC
      go_upto_region 7 with fail
      refine wp_region_pe (.rd 0 (.rd 1 (.rd 2 (.rd 3 (.rd 4 (.rd 5 (.rd 6 (.wr 7 (.rd 8 (.rd 9 (.rd 10 (.rd 12 (.rd 13 (.rd 14 (.rd 15 (.wr 11 (.rd 16 (.rd 17 (.rd 18 (.rd 19 (.rd 20 (.rd 21 (.rd 22 (.rd 23 (.rd 24 (.rd 25 (.rd 26 (.rd 27 (.wr 28 (.rd 29 (.rd 30 .fin))))))))))))))))))))))))))))))) (fun w' => Below w1.heap.size w1 w') (by kernel_rfl) (by kernel_rfl) (fun c a d v w h => by cases d <;> exact h) HBR.out ?_
      clear hcb
      generalize wr.drew = wd at HDO HBR ⊢
      repeat
        refine wpPm_read (v := ?_) (by rfl) (by rfl) (fun w' hS => ?_) (fun K hK => ?_)
        rotate_left
        · obtain ⟨d0, d1, d2⟩ := HAC.out w' hS
          have hcx := HCX.out w' hS
          clear hS
          go_simp
          try with_reducible rfl
        go_simp
        refine hK _ ?_
        clear hK K
      refine wpPm_write (by rfl) (fun K hK => ?_)
      go_simp
      refine HDO.out.mono ?_
      rintro e w3 ⟨rfl, L', v', rb', _, hd3, _⟩
      clear HDO
      generalize m.does a = m3 at hd3
      have HD3 := Lib.hid (hd3.fewer (gs := []) (fun x hx => by cases hx))
      have HMO := Lib.hid (mode_any hd3.row')
      obtain ⟨A3, c3, rfl⟩ := hd3.sl
      have HBQ := Lib.hid (And.intro hd3.bel hd3.row)
      clear hd3
      refine hK.out _ _ (fun w' => Below w1.heap.size w1 w' ∧ w'.heap[q]? = some (mdO m3 (.slice A3 m3.rows.length c3))) (fun _ h => h.1) HBQ.out ?_
      clear hK K
      repeat
        refine wpPm_read (v := ?_) (by rfl) (by rfl) (fun w' hS => ?_) (fun K hK => ?_)
        rotate_left
        · have hcq := fun j => cell_of_row w' q j _ _ _ hS.2
          clear hS
          go_simp
          try with_reducible rfl
        go_simp
        refine hK _ ?_
        clear hK K
      refine wpPm_write (by rfl) (fun K hK => ?_)
      go_simp
      refine HMO.out.mono ?_
      rintro e Y ⟨rfl, rfl⟩
      refine hK.out _ _ (fun w' => Below w1.heap.size w1 w' ∧ w'.heap[q]? = some (mdO m3 (.slice A3 m3.rows.length c3))) (fun _ h => h) HBQ.out ?_
      clear hK K HMO
      repeat
        refine wpPm_read (v := ?_) (by rfl) (by rfl) (fun w' hS => ?_) (fun K hK => ?_)
        rotate_left
        · have hcq := fun j => cell_of_row w' q j _ _ _ hS.2
          clear hS
          go_simp
          try with_reducible rfl
        go_simp
        refine hK _ ?_
        clear hK K
      refine wpPm_write (by rfl) (fun K hK => ?_)
      go_simp
      refine (HD3.out.lies (by omega)).mono ?_
      rintro e w4 ⟨rfl, hb4⟩
      have HD4 := Lib.hid (HD3.out.below hb4)
      refine hK.out _ _ (fun w' => Below w1.heap.size w1 w' ∧ w'.heap[q]? = some (mdO m3 (.slice A3 m3.rows.length c3))) (fun _ h => h) ⟨HD4.out.bel, HD4.out.row⟩ ?_
      clear hK K hb4 HD3 HBQ HBR
      repeat
        refine wpPm_read (v := ?_) (by rfl) (by rfl) (fun w' hS => ?_) (fun K hK => ?_)
        rotate_left
        · skip
          clear hS
          go_simp
          try with_reducible rfl
        go_simp
        refine hK _ ?_
        clear hK K
      show wpList _ _ _ _ _ _
      go_wp2_with fail
      go_roundw
      case rel => exact ⟨k + 1, HLT.out, by go_num, Lib.hid ⟨_, _, _, _, HD4.out⟩⟩
      case measure => have := HLT.out; simp [intOf]; omega
    · obtain rfl : k = L.length := by omega
      have HBE := Lib.hid (HBW.out.trans (hd.bel.mono HBW.out.size))
      clear hd HD HI
      go_wp2_with fail
      refine (HL.out _).mono ?_
      rintro e w3 ⟨rfl, hb⟩
      have HB3 := Lib.hid (HBE.out.trans (hb.mono HBE.out.size))
      clear hb HL
      go_wp2
      go_ret
      exact ⟨rfl, HB3.out⟩
end Go.Proofs.YtjbepnkchoaipaaGreat
