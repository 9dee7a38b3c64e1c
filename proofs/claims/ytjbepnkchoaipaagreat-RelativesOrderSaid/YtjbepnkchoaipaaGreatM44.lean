import Derived.Test.YtjbepnkchoaipaaGreatM43
import Derived.Test.YtjbepnkchoaipaaGreatM42
import Derived.Test.YtjbepnkchoaipaaGreatM31
set_option linter.unusedVariables false
set_option linter.unusedSimpArgs false
/- Law 31: RelativesOrder returns true. -/
namespace Go.Proofs.YtjbepnkchoaipaaGreat
open Go.RowKit Go.Lib Go.Maps Go.WideMaps Go.Sort
set_option maxRecDepth 100000
theorem Tryz.infoStr : (Tryz.prog.info? 9).map (fun i => (i.zero, i.size, i.bytes)) = some (some (.string ⟨#[]⟩), 1, 16) := by kernel_rfl
def isStr (v : Value) : Prop := ∃ s, v = .string s
theorem str_no (u : UInt8) : ¬ isStr (u8 u) := fun ⟨_, e⟩ => by cases e
/-- Rows of bytes that are read. -/
def BsAt (w : World) (A : Option Addr) (L : List J.B) : Prop := 0 < L.length → ∃ b o, A = some ⟨b, o, none⟩ ∧ b < w.heap.size ∧ ∀ i (h : i < L.length), ∃ v, w.cell? ⟨b, o + i, none⟩ = some v ∧ Sl w NoM v L[i]
theorem BsAt.below {w w' : World} {A : Option Addr} {L : List J.B} (h : BsAt w A L) (hb : Below w.heap.size w w') : BsAt w' A L := fun hn => by
  obtain ⟨b, o, e, hl, hc⟩ := h hn
  refine ⟨b, o, e, Nat.lt_of_lt_of_le hl hb.size, fun i hi => ?_⟩
  obtain ⟨v, h1, h2⟩ := hc i hi
  exact ⟨v, (hb.cell (p := ⟨b, o + i, none⟩) hl).trans h1, h2.step (Step.of_below hb)⟩
/-- The first bytes of a slice. -/
theorem by_take {w : World} {M : Nat → Prop} {A : Option Addr} {l : J.B} {j : Nat} (h : By w M A l.length l) (hj : j ≤ l.length) : By w M A j (l.take j) := by
  refine ⟨by rw [List.length_take]; omega, fun hn => ?_⟩
  obtain ⟨b, o, e, hl, hM, hc⟩ := h.2 (by omega)
  refine ⟨b, o, e, hl, hM, fun i hi => ?_⟩
  rw [List.length_take] at hi
  rw [hc i (by omega), List.getElem_take]
/-- The records of the law. -/
def recOf (i : Nat) (l : J.B) : J.B := UInt8.ofNat i :: l.take 5
def recs (L : List J.B) : Nat → List J.B
  | 0 => []
  | k + 1 => recs L k ++ [recOf k (L[k]?.getD [])]
theorem recs_len (L : List J.B) (k : Nat) : (recs L k).length = k := by
  induction k with
  | zero => rfl
  | succ k ih => simp [recs, ih]
theorem rec_len (i : Nat) (l : J.B) : 0 < (recOf i l).length ∧ (recOf i l).length ≤ 6 := by
  unfold recOf; simp; omega
section
variable {w0 : World} {p pf : Nat} {nm : J.B} {u : Nat} {fs : List (Nat × Obj)} {m m' : R.M} {L : List (List (J.B × J.B))} {w w' : World} {s : J.St}
theorem k_next_add (h : K w0 p pf nm u fs m L w) {W : World} (hg : w.grownBy W (some pf)) (hr : W.heap[pf]? = some (fileO p nm m.nextR.1.rel m.nextR.1.size m.nextR.1.mode m.nextR.1.next m.nextR.1.last)) {x : Nat × Obj} (hx : w.heap.size ≤ x.1) (hx2 : W.heap[x.1]? = some x.2) : KR w0 p pf nm u (x :: fs) m.nextR.1 L W := by
  obtain ⟨s, ha, hk, hf, hnm⟩ := h
  have hm := R.ok_next hk.mok
  have e : m.nextR.1.rel = m.rel ∧ m.nextR.1.size = m.size ∧ m.nextR.1.map nm = m.map nm := by
    unfold R.M.nextR
    split
    · exact ⟨rfl, rfl, rfl⟩
    · split
      · exact ⟨rfl, rfl, rfl⟩
      · split <;> exact ⟨rfl, rfl, rfl⟩
  have hl := (Array.getElem?_eq_some_iff.1 (ha.get List.mem_cons_self)).1
  have hl : pf < w.heap.size := hl
  refine K.same ?_ hk (fun y hy => ?_) hnm hm e.2.2
  · rw [e.1, e.2.1] at hr ⊢
    exact ha.turnAdd hf hk.sto.two (file_noBy (ha.get List.mem_cons_self)) hg hr (gs := [x]) (fun y hy => by
      simp only [List.mem_singleton] at hy; subst hy; exact ⟨hx, hx2⟩)
  · rcases List.mem_cons.1 hy with rfl | hy
    · omega
    · exact hf y hy
/-- Next, whose bytes the law may write to. -/
theorem x_nextB (h : KX w0 p pf nm u fs m w) (hu : u ≤ 340) {n : Nat} {b st : J.B} (he : m.nextR = (m', some (n, b), st)) (hb : b ≠ []) :
    Calls Tryz.prog 13 #[.pointer (some ⟨pf, 0, none⟩)] w fun e w' => ∃ g o, e = .returned (.tuple #[.slice (some ⟨g, o, none⟩) b.length b.length, .int .i64 (n : Nat), .string ⟨st.toArray⟩]) ∧ w.heap.size ≤ g ∧ U8 w' g ∧ By w' NoM (some ⟨g, o, none⟩) b.length b ∧ w.grownBy w' (some pf) ∧ pf < w.heap.size ∧
      ∀ W, w.grownBy W (some pf) → W.heap[pf]? = w'.heap[pf]? → ∀ ob, W.heap[g]? = some ob → KX w0 p pf nm (u + 1) ((g, ob) :: fs) m' W := by
  obtain ⟨L, h⟩ := h
  have hat := fun W hg hr x hx hx2 => k_next_add (W := W) h hg hr (x := x) hx hx2
  rw [he] at hat
  have hl := (Array.getElem?_eq_some_iff.1 h.row).1
  have hl : pf < w.heap.size := hl
  refine (k_next h hu).mono ?_
  rw [he]
  rintro e w' ⟨v, rfl, hs, hg, hr⟩
  have hs : Slc w' (· < w.heap.size) v b := hs
  rcases hs with ⟨_, h0⟩ | ⟨g, o, rfl, _, h2, h3, h4⟩
  · exact absurd h0 hb
  · exact ⟨g, o, rfl, Nat.le_of_not_lt h3, h2, h4.weak (fun _ h => h.elim), hg, hl, fun W hgW hrW ob hob => (hat W hgW (hrW.trans hr) (g, ob) (Nat.le_of_not_lt h3) hob).kx⟩
theorem src_blk {g o c : Nat} {b : J.B} {ob : Obj} (h : (g, ob) ∈ fs) (hw : w.heap[g]? = some ob) (hby : By w NoM (some ⟨g, o, none⟩) b.length b) (hc : b.length ≤ c) : Src w0 p fs (.slice (some ⟨g, o, none⟩) b.length c) b := by
  intro gs t w1 hg ha
  have hr := ha.get (hg _ h)
  have hl := (Array.getElem?_eq_some_iff.1 hr).1
  refine .inr ⟨g, o, c, rfl, hc, hl, hby.1, fun hn => ?_⟩
  obtain ⟨b', o', e, _, hM, hcl⟩ := hby.2 hn
  injection e with e; injection e with e1 e2 e3; subst e1 e2
  exact ⟨g, o, rfl, hl, hM, fun j hj => (World.cell?_of_block (hr.trans hw.symm)).trans (hcl j hj)⟩
/-- The first byte is set. -/
theorem by_set0 {g o : Nat} {x y : UInt8} {t : J.B} (h : By w NoM (some ⟨g, o, none⟩) (x :: t).length (x :: t)) : By (w.setCell ⟨g, o, none⟩ (u8 y)) NoM (some ⟨g, o, none⟩) (y :: t).length (y :: t) := by
  obtain ⟨b', o', e, hl, hM, hcl⟩ := h.2 (by simp)
  injection e with e; injection e with e1 e2 e3; subst e1 e2
  have hsz : g < (w.setCell ⟨g, o, none⟩ (u8 y)).heap.size := by simpa [World.setCell] using hl
  refine ⟨rfl, fun _ => ⟨g, o, rfl, hsz, hM, fun j hj => ?_⟩⟩
  cases j with
  | zero => exact World.cell?_setCell_same w ⟨g, o + 0, none⟩ (u8 y) (hcl 0 (by simp))
  | succ j =>
    have h0 := hcl (j + 1) (by simpa using hj)
    rw [World.cell?_setCell_other w ⟨g, o, none⟩ ⟨g, o + (j + 1), none⟩ (u8 y) (fun e => by injection e with _ e; omega), h0]
    rfl
end
abbrev bv (x : UInt8) : Value := u8 x
theorem wrap_u8k (k : Nat) : (Value.int .u8 (IntKind.u8.wrap (k : Int))) = bv (UInt8.ofNat k) := u8_ofNat k _ (by rw [IntKind.wrap_u8])
theorem wrap_u8x (x : UInt8) : (Value.int .u8 (((x.toNat : Int) + 1) % 256)) = bv (x + 1) := by
  show Value.int .u8 _ = Value.int .u8 _
  rw [UInt8.toNat_add]
  congr 1
theorem lit_own (w : World) (cs : Array Value) (l : J.B) (n : Nat) (hn : l.length = n) (e : cs.toList = u8s l) (hm : n ≤ 1000) : (w.alloc (.cells cs 5)).ownsRow w.heap.size 5 1 (.slice (some ⟨w.heap.size, 0, none⟩) n n) n (u8s l) := by
  have := World.ownsRow_lit (base := w.heap.size) (e := 5) (size := 1) w cs n (Nat.le_refl _) (by unfold maxLen; omega) (by rw [← Array.length_toList, e, u8s_len, hn, Nat.mul_one])
  rw [e] at this; exact this
theorem KX.src {w0 : World} {p pf : Nat} {nm : J.B} {u : Nat} {fs : List (Nat × Obj)} {m : R.M} {W : World} {v : Value} {b : J.B} (h : KX w0 p pf nm u fs m W) (hs : Src w0 p fs v b) : Sl W NoM v b := by
  obtain ⟨L, s, h1, _⟩ := h
  exact hs _ _ _ (fun x hx => List.mem_cons_of_mem _ hx) h1
theorem one_new (w : World) (x : Value) (t : TypeId) : (w.alloc (.cells #[x] t)).cell? ⟨w.heap.size, 0, none⟩ = some x := by
  rw [cell_of_row _ w.heap.size 0 _ _ _ (heap_alloc_new w _)]; rfl
theorem recs_str (l : List J.B) : ∀ u ∈ l.map encStr, isStr u := fun u hu => by
  obtain ⟨b, _, rfl⟩ := List.mem_map.1 hu
  exact ⟨_, rfl⟩
/-- What holds at the beginning of a round of the first loop. -/
structure OrdI (w : World) (p pf : Nat) (L : List J.B) (k : Nat) (f : List (Nat × Obj)) (wv : Value) (W : World) : Prop where
  kx : KX w p pf [108, 111, 103] (3 + k) f (R.ord (recs L k) 4 1 0) W
  own : OwnIn f w.heap.size 9 wv k ((recs L k).map encStr) isStr
theorem K.mono {w0 : World} {p pf : Nat} {nm : J.B} {u v : Nat} {fs : List (Nat × Obj)} {m : R.M} {L : List (List (J.B × J.B))} {W : World} (h : K w0 p pf nm u fs m L W) (hv : u ≤ v) : K w0 p pf nm v fs m L W := by
  obtain ⟨s, h1, h2, h3, h4⟩ := h
  exact ⟨s, h1, ⟨h2.mok.mono hv, h2.sto.mono hv, h2.hist, h2.len⟩, h3, h4⟩
theorem KX.mono {w0 : World} {p pf : Nat} {nm : J.B} {u v : Nat} {fs : List (Nat × Obj)} {m : R.M} {W : World} (h : KX w0 p pf nm u fs m W) (hv : u ≤ v) : KX w0 p pf nm v fs m W := by
  obtain ⟨L, h⟩ := h
  exact ⟨L, h.mono hv⟩
theorem KX.ne {w0 : World} {p pf : Nat} {nm : J.B} {u : Nat} {fs : List (Nat × Obj)} {m : R.M} {W : World} (h : KX w0 p pf nm u fs m W) {x : Nat × Obj} (hx : x ∈ fs) : x.1 ≠ pf := by
  obtain ⟨L, s, _, _, h3, _⟩ := h
  exact h3 x hx
theorem By.blk {w w' : World} {M : Nat → Prop} {g o n : Nat} {b : J.B} (h : By w M (some ⟨g, o, none⟩) n b) (hb : w'.heap[g]? = w.heap[g]?) : By w' M (some ⟨g, o, none⟩) n b := by
  refine ⟨h.1, fun hn => ?_⟩
  obtain ⟨b', o', e, hl, hM, hc⟩ := h.2 hn
  injection e with e; injection e with e1 e2 e3; subst e1 e2
  have hl2 : g < w'.heap.size := by
    have h0 : w'.heap[g]? = some w.heap[g] := hb.trans (Array.getElem?_eq_getElem hl)
    exact (Array.getElem?_eq_some_iff.1 h0).1
  exact ⟨g, o, rfl, hl2, hM, fun j hj => (World.cell?_of_block hb).trans (hc j hj)⟩
theorem recs_ok (L : List J.B) (k : Nat) : ∀ b ∈ recs L k, 0 < b.length ∧ b.length ≤ 6 := by
  induction k with
  | zero => intro b hb; cases hb
  | succ k ih =>
    intro b hb
    rcases List.mem_append.1 hb with hb | hb
    · exact ih b hb
    · simp only [List.mem_singleton] at hb; subst hb; exact rec_len _ _
/-- What holds at the beginning of a round of the second loop, and of the third one. -/
structure OrdJ (w : World) (p pf : Nat) (n md u k : Nat) (f : List (Nat × Obj)) (wv : Value) (ws : List J.B) (la : Nat) (W : World) : Prop where
  len : ws.length = n
  bl : ∀ b ∈ ws, 0 < b.length ∧ b.length ≤ 6
  kx : KX w p pf [108, 111, 103] u f (R.ord ws md (k + 1) la) W
  own : OwnIn f w.heap.size 9 wv n (ws.map encStr) isStr
set_option maxHeartbeats 4000000 in
theorem order_any (A : Option Addr) (c : Nat) (L : List J.B) (a : Nat) (w : World) (hL : BsAt w A L) :
    Calls Tryz.prog 3 #[.slice A L.length c, .int .u64 (a : Nat)] w fun e w' => e = .returned (.bool true) ∧ Below w.heap.size w w' := by
  obtain ⟨ii, hii, hiz0, hiz1, hiz2⟩ := info_parts Tryz.infoStr
  by_cases hbig : 60 < L.length
  · have h1 : (60 : Int) < (L.length : Nat) := by omega
    clear hL hbig
    go_enter Tryz.func3, Tryz.ntmps3
    go_wp2_with fail
    refine (lives_any w).mono ?_
    rintro e w1 ⟨rfl, hb⟩
    have HB := Lib.hid hb
    clear hb
    go_wp2
    go_ret
    exact ⟨rfl, HB.out⟩
  have h1 : ¬ (60 : Int) < (L.length : Nat) := by omega
  have HL := Lib.hid hL
  have HLN := Lib.hid (Nat.le_of_not_lt hbig)
  clear hL hbig
  go_enter Tryz.func3, Tryz.ntmps3
  go_wp2_with fail
  refine (at_new w _ (Below.refl _ _)).mono ?_
  rintro e W ⟨p, rfl, h⟩
  have H := Lib.hid h
  clear h h1
  go_wp2_with fail
  refine (k_new H.out [108, 111, 103] false 6 (by decide) (by decide) (by decide) (by decide) (by decide)).mono ?_
  rintro e W0 ⟨pf, rfl, h⟩
  have H0 := Lib.hid (kx_of h)
  clear h H
  go_wp2_with fail
  refine (x_open H0.out (by decide) 2 R.ord_new).mono ?_
  rintro e W1 ⟨rfl, h⟩
  have H1 := Lib.hid h
  clear h H0
  go_wp2_with fail
  refine (x_close H1.out (R.ord_close [] 2 1 0 (by decide))).mono ?_
  rintro e W2 ⟨rfl, h⟩
  have H2 := Lib.hid h
  clear h H1
  go_wp2_with fail
  refine (x_open H2.out (by decide) 4 (R.ord_open [] 1 0 4 (.inr (.inr rfl)))).mono ?_
  rintro e W3 ⟨rfl, h⟩
  have H3 := Lib.hid h
  clear h H2
  have HI0 := Lib.hid (show OrdI w p pf L 0 [] (.slice none 0 0) W3 from ⟨H3.out, ownIn_nil _ _ _⟩)
  clear H3
  go_wp2
  go_loopw [8, 9] (fun wv i W => ∃ (k : Nat) (f : List (Nat × Obj)), k ≤ L.length ∧ i = .int .i64 k ∧ Hid (OrdI w p pf L k f wv W)) (fun _ i _ => L.length - (intOf i).toNat)
  case atStart => exact ⟨0, [], Nat.zero_le _, rfl, HI0⟩
  case round =>
    clear HI0
    obtain ⟨k, f, hk, rfl, HI⟩ := hrel
    by_cases hlt : k < L.length
    · have hbel := HI.out.kx.bel
      obtain ⟨b0, o0, rfl, hl0, hcl⟩ := HL.out (by omega)
      have hc0 := hcl k hlt
      have hget : L[k]? = some L[k] := List.getElem?_eq_getElem hlt
      generalize L[k] = lk at hc0 hget
      obtain ⟨v0, hv0, hs0⟩ := hc0
      obtain ⟨A1, c1, rfl, hcc, hby0⟩ := hs0.by
      have hcell : wr.cell? ⟨b0, o0 + k, none⟩ = some (.slice A1 lk.length c1) := (hbel.cell (p := ⟨b0, o0 + k, none⟩) hl0).trans hv0
      have HLN2 := HLN.out
      have hk8 : (k : Int) % 256 = (k : Int) := by omega
      obtain ⟨j, hj, hj2⟩ : ∃ j : Nat, min (lk.length : Int) 5 = (j : Int) ∧ j = min 5 lk.length := ⟨min 5 lk.length, by omega, rfl⟩
      have hjc : (j : Int) ≤ (c1 : Int) := by omega
      have HTK := Lib.hid (show By wr NoM A1 j (lk.take 5) by
        have h := by_take (hby0.step (Step.of_below hbel)) (show j ≤ lk.length by omega)
        rw [show lk.take j = lk.take 5 by rw [hj2, List.take_eq_take_iff]; omega] at h
        exact h)
      have HLT := Lib.hid hlt
      have HGET := Lib.hid hget
      have HBS := Lib.hid hbel.size
      have HJ2 := Lib.hid hj2
      clear hcl hv0 hs0 hby0 hbel hj2 hget
      go_upto_region 11 with fail
      refine wp_region_pm 14 (.rd 0 (.rd 1 (.rd 3 (.rd 4 (.rd 5 (.rd 6 (.rd 7 (.rd 8 (.rd 9 (.rd 10 (.rd 11 (.rd 12 (.rd 13 (.wr 2 .fin)))))))))))))) (fun w' => w'.cell? ⟨b0, o0 + k, none⟩ = some (.slice A1 lk.length c1)) (by kernel_rfl) (by kernel_rfl) (fun c a d v w h => by cases d <;> exact h) hcell ?_
      repeat
        refine wpPm_read (v := ?_) (by rfl) (by rfl) (fun w' hS => ?_) (fun K hK => ?_)
        rotate_left
        · go_simp
          try with_reducible rfl
        go_simp
        refine hK _ ?_
        clear hK K
      refine wpPm_write (by rfl) (fun K hK => ?_)
      go_simp
      rw [wrap_u8k]
      have hbW : Below wr.heap.size wr (wr.alloc (.cells #[bv (UInt8.ofNat k)] 5)).drew := ((Below.refl _ wr).alloc (Nat.le_refl _) _).drew
      have hl1 := Nat.lt_of_lt_of_le hl0 HBS.out
      refine hK.out _ _ (fun w' => w'.cell? ⟨b0, o0 + k, none⟩ = some (.slice A1 lk.length c1)) (fun _ h => h) ((hbW.cell (p := ⟨b0, o0 + k, none⟩) hl1).trans hcell) ?_
      clear hK K
      have hlit : (wr.alloc (.cells #[bv (UInt8.ofNat k)] 5)).drew.ownsRow wr.heap.size 5 1 (.slice (some ⟨wr.heap.size, 0, none⟩) 1 1) 1 (u8s [UInt8.ofNat k]) := lit_own wr _ [UInt8.ofNat k] 1 rfl rfl (by decide)
      have hby2 := HTK.out.step (Step.of_below (M := NoM) hbW)
      have HBW := Lib.hid hbW
      have HLIT := Lib.hid hlit
      have HBY2 := Lib.hid hby2
      clear hcell hjc hlit hby2 hbW HTK hl1
      generalize (wr.alloc (.cells #[bv (UInt8.ofNat k)] 5)).drew = wx at HBW HLIT HBY2 ⊢
      show wpList _ _ _ _ _ _
      refine wpList_app_by rfl _ _ rfl wr.heap.size _ 1 [UInt8.ofNat k] rfl HLIT.out NoM A1 j c1 (lk.take 5) rfl HBY2.out (by omega) HBW.out.size ?_
      intro v1 w1 hown hg1 _ _
      have hB1 : Below wr.heap.size wr w1 := HBW.out.grown hg1 HBW.out.size (fun k e => by cases e; exact Nat.le_refl _)
      have hrl := rec_len k lk
      obtain ⟨x, hkx, hsrc, hxl⟩ := src_own (b := recOf k lk) hown (by intro e; rw [e] at hrl; exact absurd hrl.1 (by decide)) HI.out.kx hB1 (Nat.le_refl _)
      have hap := x_appendS hkx (by omega) v1 (recOf k lk) hsrc (R.ord_append (by rw [recs_len]; omega) 1 0 hrl)
      have en : (((recs L k).length + 1 : Nat) : Int) = (k : Int) + 1 := by rw [recs_len]; omega
      rw [en] at hap
      have HAP := Lib.hid hap
      have HSRC := Lib.hid hsrc
      clear hown hg1 hB1 hrl hkx hsrc hap en HBW HLIT HBY2
      go_wp2_with fail
      refine HAP.out.mono ?_
      rintro e w2 ⟨rfl, hk2⟩
      have hsl2 := hk2.src HSRC.out
      obtain ⟨A3, c3, hv3, _, hby3⟩ := hsl2.by
      subst hv3
      have hcv := run_str_by (c := c3) (hby3.step (Step.of_below (M := NoM) (Below.refl _ w2)))
      have hkf := hk2.fewer (gs := f) (fun y hy => List.mem_cons_of_mem _ hy)
      obtain ⟨hrow, hrp⟩ := hkf.own HI.out.own (fun y hy => hy)
      have HKF := Lib.hid hkf
      have HROW := Lib.hid hrow
      have HRP := Lib.hid hrp
      have HW2 := Lib.hid hkf.bel.size
      clear hj hcc hk8
      clear hk2 hsl2 hby3 hkf hrow hrp HAP HSRC
      go_wp2_with (at_builtin; refine wpList_append_P _ rfl _ _ 36 rfl isStr w.heap.size 9 ii (.string ⟨#[]⟩) 16 Tryz.underlying36 hii hiz0 hiz1 hiz2 rfl ⟨_, rfl⟩ _ k ((recs L k).map encStr) rfl (HROW.out.alloc _) (HRP.out.same (fun g hg => Below.heap_alloc _ _ _ ((HROW.out.lt g hg).2))) (recs_str _) ⟨w2.heap.size, 0, none⟩ 1 (encStr (recOf k lk)) rfl (one_new _ _ _) rfl ⟨_, rfl⟩ (by unfold maxLen; omega) (by omega) (by have := HW2.out; simp; omega) ?_)
      intro v4 w3 hown4 hg4 hloc4 hp4
      have hkA := HKF.out.below ((Below.refl _ w2).alloc (Nat.le_refl _) (.cells #[encStr (recOf k lk)] 9))
      have hre : recs L (k + 1) = recs L k ++ [recOf k lk] := by
        show recs L k ++ [recOf k (L[k]?.getD [])] = _
        rw [HGET.out]; rfl
      obtain ⟨f', hk', ho', _⟩ := KX.grow (fs := []) (fs1 := f) (by rw [List.append_nil]; exact hkA) HI.out.own str_no (by decide) (fun _ _ _ h => by cases h) hg4 (by rw [World.size_alloc]; exact hloc4) hown4 hp4
      rw [List.append_nil] at hk'
      have HN := Lib.hid (show OrdI w p pf L (k + 1) f' v4 w3 from ⟨by rw [hre]; exact hk', by rw [hre, List.map_append]; exact ho'⟩)
      clear hkA hre hk' ho' hown4 hg4 hloc4 hp4 HKF HROW HRP HI hcv
      go_wp2_with fail
      go_roundw
      case rel => exact ⟨k + 1, f', by omega, by go_num, HN⟩
      case measure => simp [intOf]; omega
    · obtain rfl : k = L.length := by omega
      have HLN2 := HLN.out
      have hn0 := recs_len L L.length
      have HX := Lib.hid HI.out.kx
      have HO := Lib.hid HI.out.own
      clear HI
      go_wp2_with fail
      refine (x_close HX.out (R.ord_close _ 4 1 0 (by decide))).mono ?_
      rintro e w2 ⟨rfl, h⟩
      have H2 := Lib.hid h
      clear h HX
      go_wp2_with fail
      refine (x_open H2.out (by omega) 3 (R.ord_open _ 1 0 3 (.inr (.inl rfl)))).mono ?_
      rintro e w3 ⟨rfl, h⟩
      have H3 := Lib.hid h
      clear h H2
      have HJ0 := Lib.hid (show OrdJ w p pf L.length 3 (5 + L.length + 3 * 0) 0 f u8 (recs L L.length) 0 w3 from ⟨hn0, recs_ok L L.length, H3.out.mono (by omega), HO.out⟩)
      clear H3 HO hn0
      go_wp2
      go_loopw [13] (fun i W => ∃ (k : Nat) (f : List (Nat × Obj)) (ws : List J.B) (la : Nat), k ≤ L.length ∧ i = .int .i64 k ∧ Hid (OrdJ w p pf L.length 3 (5 + L.length + 3 * k) k f u8 ws la W)) (fun i _ => L.length - (intOf i).toNat)
      case atStart => exact ⟨0, f, _, 0, Nat.zero_le _, rfl, HJ0⟩
      case round =>
        clear HJ0
        obtain ⟨k, f, ws, la, hk, rfl, HJ⟩ := hrel
        have hwl := HJ.out.len
        by_cases hlt : k < L.length
        · have hkw : k < ws.length := by omega
          obtain ⟨hrow, hrp⟩ := HJ.out.kx.own HJ.out.own (fun y hy => hy)
          have hcw := fun (g : Nat) (hg : u8.ownBlock = some g) => hrow.cells (g := g) hg
          rcases hrow.2 with ⟨_, h0⟩ | ⟨gw, cw, cur, rfl, _, hgw, hncw, _, _, _⟩
          · omega
          have hcell : wr.cell? ⟨gw, k, none⟩ = some (encStr ws[k]) := by
            have := hcw gw rfl k (encStr ws[k]) (by simp [hkw])
            rw [show (⟨gw, 0, none⟩ : Addr).add k = ⟨gw, k, none⟩ by simp [add_mk]] at this
            exact this
          have hbk := HJ.out.bl _ (List.getElem_mem hkw)
          have hnx := x_nextB HJ.out.kx (by omega) (R.ord_next hkw 3 la (.inr rfl)) (by intro e; rw [e] at hbk; exact absurd hbk.1 (by decide))
          have en : ((k + 1 : Nat) : Int) = (k : Int) + 1 := by omega
          rw [en] at hnx
          have hget : ws[k]? = some ws[k] := List.getElem?_eq_getElem hkw
          generalize ws[k] = b at hcell hnx hbk hget
          have HBK := Lib.hid hbk
          have HGL := Lib.hid (Array.getElem?_eq_some_iff.1 hgw).1
          have HRW := Lib.hid hrow
          have HRP := Lib.hid hrp
          have HB := Lib.hid hget
          have HNX := Lib.hid hnx
          have HCL := Lib.hid hcell
          have HWL := Lib.hid hwl
          have HLT := Lib.hid hlt
          clear hget hnx hcell hwl hrow hrp hcw hgw hbk hkw
          go_wp2_with fail
          refine HNX.out.mono ?_
          rintro e w4 ⟨g, o, rfl, hge, hu8, hby, hg4, hpfl, hK4⟩
          have hgne : gw ≠ pf := by
            rcases HJ.out.own.blk with ⟨hv, _⟩ | ⟨g', ob, hv, hf⟩
            · cases hv
            · have : gw = g' := by simpa [Value.ownBlock] using hv
              subst this
              exact HJ.out.kx.ne (x := (gw, ob)) (by rw [hf]; exact List.mem_cons_self)
          have hcl4 : w4.cell? ⟨gw, k, none⟩ = some (encStr b) := hg4.cell HCL.out (fun e => hgne (by injection e))
          have HBY := Lib.hid hby
          have HU8 := Lib.hid hu8
          have HG4 := Lib.hid hg4
          have HK4 := Lib.hid hK4
          have HGE := Lib.hid hge
          have HPF := Lib.hid hpfl
          have HC4 := Lib.hid hcl4
          have HNE := Lib.hid hgne
          have HWK := Lib.hid (show IntKind.i64.wrap ((k : Int) + 1) = (k : Int) + 1 by rw [IntKind.wrap_i64]; omega)
          clear hge hu8 hg4 hpfl hK4 HNX hgne en
          go_upto_region 22 with fail
          refine wp_region_pm 15 (.rd 0 (.rd 1 (.rd 2 (.rd 3 (.rd 4 (.rd 5 (.rd 6 (.rd 7 (.rd 8 (.rd 9 (.rd 10 (.rd 11 (.rd 12 (.rd 13 (.rd 14 .fin))))))))))))))) (fun w' => By w' NoM (some ⟨g, o, none⟩) b.length b ∧ w'.cell? ⟨gw, k, none⟩ = some (encStr b)) (by kernel_rfl) (by kernel_rfl) (fun c a d v w h => by cases d <;> exact h) ⟨hby, hcl4⟩ ?_
          clear hby hcl4
          repeat
            refine wpPm_read (v := ?_) (by rfl) (by rfl) (fun w' hS => ?_) (fun K hK => ?_)
            rotate_left
            · have hcv := run_str_by (c := b.length) hS.1
              have hcs := hS.2
              have hwk := HWK.out
              clear hS
              go_simp
              try with_reducible rfl
            go_simp
            refine hK _ ?_
            clear hK K
          show wpList _ _ _ _ _ _
          go_upto_region 24 with fail
          cases hbit : (((a : Int) / 2 ^ k).tmod 2 == 1) with
          | false =>
            obtain ⟨hgl4, cur4, _, hrow4⟩ := HU8.out
            have hk5 := (HK4.out w4 HG4.out rfl _ hrow4).fewer (gs := f) (fun y hy => List.mem_cons_of_mem _ hy)
            have HN := Lib.hid (show OrdJ w p pf L.length 3 (5 + L.length + 3 * (k + 1)) (k + 1) f (.slice (some ⟨gw, 0, none⟩) L.length cw) ws (k + 1) w4.drew from ⟨HJ.out.len, HJ.out.bl, (hk5.below ((Below.refl _ w4).drew)).mono (by omega), HJ.out.own⟩)
            clear hgl4 hrow4 hk5 HJ HK4 HRW HRP
            go_wp2_with fail
            go_roundw
            case rel => exact ⟨k + 1, f, ws, k + 1, HLT.out, by go_num, HN⟩
            case measure => have := HLT.out; simp [intOf]; omega
          | true =>
            obtain ⟨x, t, rfl⟩ : ∃ x t, b = x :: t := by
              cases b with
              | nil => exact absurd HBK.out.1 (by decide)
              | cons x t => exact ⟨x, t, rfl⟩
            have hx0 : w4.cell? ⟨g, o, none⟩ = some (bv x) := by
              obtain ⟨b', o', e, _, _, hc⟩ := HBY.out.2 (by simp)
              injection e with e; injection e with e1 e2 e3; subst e1 e2
              exact hc 0 (by simp)
            obtain ⟨hgl4, cur4, _, hrow4⟩ := HU8.out
            have hz4 := frozen_row hrow4
            have hlen0 : (0 : Int) < ((x :: t).length : Nat) := by simp
            have HR4 := Lib.hid hrow4
            clear hrow4 hgl4
            go_upto_region 26 with fail
            rw [wrap_u8x]
            have hgp : pf ≠ g := by have := HPF.out; have := HGE.out; omega
            have hgg : gw ≠ g := by have := HGL.out; have := HGE.out; omega
            have hg0 := grown_other HG4.out HGE.out o (bv (x + 1))
            have hg5 : wr.grownBy (w4.setCell ⟨g, o, none⟩ (bv (x + 1))).drew (some pf) := ⟨hg0.os, hg0.tape, hg0.output, hg0.size, hg0.block⟩
            have hr5 : (w4.setCell ⟨g, o, none⟩ (bv (x + 1))).drew.heap[pf]? = w4.heap[pf]? := Below.heap_setCell _ _ _ pf hgp
            have hob5 : (w4.setCell ⟨g, o, none⟩ (bv (x + 1))).drew.heap[g]? = some (.cells (cur4.setIfInBounds o (bv (x + 1))) 5 (0, 0)) := blk_set HR4.out o _
            have hby5 : By (w4.setCell ⟨g, o, none⟩ (bv (x + 1))).drew NoM (some ⟨g, o, none⟩) ((x + 1) :: t).length ((x + 1) :: t) := by_set0 (y := x + 1) HBY.out
            generalize (w4.setCell ⟨g, o, none⟩ (bv (x + 1))).drew = w5 at hg5 hr5 hob5 hby5 ⊢
            have hk5 := HK4.out w5 hg5 hr5 _ hob5
            obtain ⟨hrow5, hrp5⟩ := hk5.own HJ.out.own (fun y hy => List.mem_cons_of_mem _ hy)
            have hst := hrow5.stored k (encStr ((x + 1) :: t))
            have hk6 := KX.grow (fs1 := f) (fs := [(g, .cells (cur4.setIfInBounds o (bv (x + 1))) 5 (0, 0))]) (W' := w5.setCell ⟨gw, k, none⟩ (encStr ((x + 1) :: t))) (hk5.fewer (fun y hy => by
                rcases List.mem_append.1 hy with h | h
                · exact List.mem_cons_of_mem _ h
                · simp only [List.mem_singleton] at h; subst h; exact List.mem_cons_self)) HJ.out.own str_no (by decide) (fun y hy z hz => by
                simp only [List.mem_singleton] at hz; subst hz
                rcases HJ.out.own.blk with ⟨_, e⟩ | ⟨g', ob, hv, e⟩
                · rw [e] at hy; cases hy
                · rw [e] at hy; simp only [List.mem_singleton] at hy; subst hy
                  have : gw = g' := by simpa [Value.ownBlock] using hv
                  subst this; exact hgg.symm) hst.2 (.inl rfl) hst.1 (rowP_set hrp5 rfl ⟨_, rfl⟩)
            have hz5 : ∃ cur : Array Value, w5.heap[gw]? = some (.cells cur 9 (0, 0)) := by
              rcases hrow5.2 with ⟨e, _⟩ | ⟨g', _, cur, e, _, h, _⟩
              · cases e
              · injection e with e; injection e with e; injection e with e; subst e; exact ⟨cur, h⟩
            obtain ⟨cur5, hcur5⟩ := hz5
            have hz5 := frozen_row hcur5
            have hc5 : w5.cell? ⟨gw, k, none⟩ = some (encStr (x :: t)) := by
              have := hrow5.cells (g := gw) rfl k (encStr (x :: t)) (by rw [List.getElem?_map, HB.out]; rfl)
              rw [show (⟨gw, 0, none⟩ : Addr).add k = ⟨gw, k, none⟩ by simp [add_mk]] at this
              exact this
            have hby6 : By (w5.setCell ⟨gw, k, none⟩ (encStr ((x + 1) :: t))) NoM (some ⟨g, o, none⟩) ((x + 1) :: t).length ((x + 1) :: t) := hby5.blk (Below.heap_setCell _ _ _ g hgg.symm)
            have hob6 : (w5.setCell ⟨gw, k, none⟩ (encStr ((x + 1) :: t))).heap[g]? = some (.cells (cur4.setIfInBounds o (bv (x + 1))) 5 (0, 0)) := (Below.heap_setCell _ _ _ g hgg.symm).trans hob5
            obtain ⟨f', hk7, ho7, _⟩ := hk6
            have hsrc := src_blk (w0 := w) (p := p) (fs := f' ++ [(g, .cells (cur4.setIfInBounds o (bv (x + 1))) 5 (0, 0))]) (List.mem_append_right _ List.mem_cons_self) hob6 hby6 (Nat.le_refl _)
            obtain ⟨hkw, hwk⟩ := List.getElem?_eq_some_iff.1 HB.out
            have hrl : 0 < ((x + 1) :: t).length ∧ ((x + 1) :: t).length ≤ 6 := HBK.out
            have hmap : (ws.map encStr).set k (encStr ((x + 1) :: t)) = (ws.set k ((x + 1) :: t)).map encStr := (List.map_set).symm
            rw [hmap] at ho7
            have hbl : ∀ b ∈ ws.set k ((x + 1) :: t), 0 < b.length ∧ b.length ≤ 6 := fun b hb => by
              rcases List.mem_or_eq_of_mem_set hb with h | h
              · exact HJ.out.bl b h
              · subst h; exact hrl
            have hr1 := x_rewriteS hk7 (by omega) 0 _ _ hsrc (R.ord_rewrite (by have := HWL.out; omega) hkw (k + 2) hrl (by rw [hwk]; rfl))
            have HR2 := Lib.hid (fun W (h : KX w p pf [108, 111, 103] (5 + L.length + 3 * k + 1 + 1) (f' ++ [(g, .cells (cur4.setIfInBounds o (bv (x + 1))) 5 (0, 0))]) (R.ord (ws.set k ((x + 1) :: t)) 3 (k + 2) 0) W) => x_rewriteS h (by omega) 0 _ _ hsrc (R.ord_again _ (k + 2) _))
            have hby5' : By w5 NoM (some ⟨g, o, none⟩) (x :: t).length ((x + 1) :: t) := hby5
            have hr1' : Calls Tryz.prog 14 #[.pointer (some ⟨pf, 0, none⟩), .int .i64 0, .slice (some ⟨g, o, none⟩) (x :: t).length (x :: t).length] (w5.setCell ⟨gw, k, none⟩ (encStr ((x + 1) :: t))) fun e w' => e = .returned (.string ⟨#[48, 48]⟩) ∧ KX w p pf [108, 111, 103] (5 + L.length + 3 * k + 1 + 1) (f' ++ [(g, .cells (cur4.setIfInBounds o (bv (x + 1))) 5 (0, 0))]) (R.ord (ws.set k ((x + 1) :: t)) 3 (k + 2) 0) w' := hr1
            have HR2' := Lib.hid (show ∀ W, KX w p pf [108, 111, 103] (5 + L.length + 3 * k + 1 + 1) (f' ++ [(g, .cells (cur4.setIfInBounds o (bv (x + 1))) 5 (0, 0))]) (R.ord (ws.set k ((x + 1) :: t)) 3 (k + 2) 0) W → Calls Tryz.prog 14 #[.pointer (some ⟨pf, 0, none⟩), .int .i64 0, .slice (some ⟨g, o, none⟩) (x :: t).length (x :: t).length] W fun e w' => e = .returned (.string ⟨#[52, 51]⟩) ∧ KX w p pf [108, 111, 103] (5 + L.length + 3 * k + 1 + 1 + 1) (f' ++ [(g, .cells (cur4.setIfInBounds o (bv (x + 1))) 5 (0, 0))]) (R.ord (ws.set k ((x + 1) :: t)) 3 (k + 2) 0) w' from HR2.out)
            have HR1' := Lib.hid hr1'
            have HBL := Lib.hid hbl
            have HO7 := Lib.hid ho7
            generalize hnn : (x :: t).length = nn at hby5' HR1' HR2' ⊢
            have hcv5 := run_str_by (c := nn) hby5'
            clear hnn hby5' hr1' hr1 HR2 hsrc hk7 ho7 hmap hrl hkw hwk hob6 hby6 hrow5 hrp5 hst hk5 hcur5 hg5 hr5 hob5 hby5 hg0 hgp hgg hbl hlen0 hx0 hz4
            go_wp2_with fail
            refine HR1'.out.mono ?_
            rintro e w7 ⟨rfl, hk8⟩
            have HR3 := Lib.hid (HR2'.out w7 hk8)
            clear hk8 HR1' HR2' hcv5 hz5 hc5
            go_wp2_with fail
            refine HR3.out.mono ?_
            rintro e w8 ⟨rfl, hk9⟩
            have hlen9 : (ws.set k ((x + 1) :: t)).length = L.length := by rw [List.length_set]; exact HWL.out
            have HN := Lib.hid (show OrdJ w p pf L.length 3 (5 + L.length + 3 * (k + 1)) (k + 1) f' (.slice (some ⟨gw, 0, none⟩) L.length cw) (ws.set k ((x + 1) :: t)) 0 w8 from ⟨hlen9, HBL.out, (hk9.fewer (fun y hy => List.mem_append_left _ hy)).mono (by omega), HO7.out⟩)
            clear hk9 hlen9 HR3 HJ HK4 HRW HRP
            go_wp2_with fail
            go_roundw
            case rel => exact ⟨k + 1, f', _, 0, HLT.out, by go_num, HN⟩
            case measure => have := HLT.out; simp [intOf]; omega
        · obtain rfl : k = L.length := by omega
          obtain ⟨Aw, cw0, rfl⟩ := own_slice_len (HJ.out.kx.own HJ.out.own (fun y hy => hy)).1
          have hen := R.ord_end ws 3 la (.inr rfl)
          rw [hwl] at hen
          have HNX := Lib.hid (x_nextN HJ.out.kx (by omega) hen)
          have HO := Lib.hid HJ.out.own
          have HBL := Lib.hid HJ.out.bl
          have HWL := Lib.hid hwl
          clear hen HJ hwl
          go_wp2_with fail
          refine HNX.out.mono ?_
          rintro e w4 ⟨v4, rfl, _, _, h⟩
          have H4 := Lib.hid h
          clear h HNX
          go_wp2_with fail
          refine (x_close H4.out (R.ord_close _ 3 0 0 (by decide))).mono ?_
          rintro e w5 ⟨rfl, h⟩
          have H5 := Lib.hid h
          clear h H4
          go_wp2_with fail
          refine (x_open H5.out (by omega) 1 (R.ord_open _ 0 0 1 (.inl rfl))).mono ?_
          rintro e w6 ⟨rfl, h⟩
          have HJ0 := Lib.hid (show OrdJ w p pf L.length 1 (8 + 4 * L.length + 0) 0 f (.slice Aw L.length cw0) ws 0 w6 from ⟨HWL.out, HBL.out, h.mono (by omega), HO.out⟩)
          clear h H5 HO HBL HWL
          go_wp2
          go_loopw [20] (fun i W => ∃ (k la : Nat), k ≤ L.length ∧ i = .int .i64 k ∧ Hid (OrdJ w p pf L.length 1 (8 + 4 * L.length + k) k f (.slice Aw L.length cw0) ws la W)) (fun i _ => L.length - (intOf i).toNat)
          case atStart => exact ⟨0, 0, Nat.zero_le _, rfl, HJ0⟩
          case round =>
            clear HJ0
            obtain ⟨k, la, hk, rfl, HJ⟩ := hrel
            have hwl := HJ.out.len
            by_cases hlt : k < L.length
            · have hkw : k < ws.length := by omega
              obtain ⟨hrow, hrp⟩ := HJ.out.kx.own HJ.out.own (fun y hy => hy)
              have hcw := fun (g : Nat) (hg : (Value.slice Aw L.length cw0).ownBlock = some g) => hrow.cells (g := g) hg
              rcases hrow.2 with ⟨_, h0⟩ | ⟨gw, cw, cur, e2, _, hgw, hncw, _, _, _⟩
              · omega
              injection e2 with e2 _ e3
              subst e2 e3
              have hcell : wr.cell? ⟨gw, k, none⟩ = some (encStr ws[k]) := by
                have := hcw gw rfl k (encStr ws[k]) (by simp [hkw])
                rw [show (⟨gw, 0, none⟩ : Addr).add k = ⟨gw, k, none⟩ by simp [add_mk]] at this
                exact this
              have hnx := x_nextS HJ.out.kx (by omega) (R.ord_next hkw 1 la (.inl rfl))
              have en : ((k + 1 : Nat) : Int) = (k : Int) + 1 := by omega
              rw [en] at hnx
              generalize ws[k] = b at hcell hnx
              have hgne : gw ≠ pf := by
                rcases HJ.out.own.blk with ⟨hv, _⟩ | ⟨g', ob, hv, hf⟩
                · cases hv
                · have : gw = g' := by simpa [Value.ownBlock] using hv
                  subst this
                  exact HJ.out.kx.ne (x := (gw, ob)) (by rw [hf]; exact List.mem_cons_self)
              have HNX := Lib.hid hnx
              have HCL := Lib.hid hcell
              have HLT := Lib.hid hlt
              have HNE := Lib.hid hgne
              have HWK := Lib.hid (show IntKind.i64.wrap ((k : Int) + 1) = (k : Int) + 1 by rw [IntKind.wrap_i64]; omega)
              clear hnx hcell hwl hrow hrp hcw hgw hkw en hgne
              go_wp2_with fail
              refine HNX.out.mono ?_
              rintro e w7 ⟨A7, c7, rfl, hby, hg7, hk7⟩
              have hcl7 : w7.cell? ⟨gw, k, none⟩ = some (encStr b) := hg7.cell HCL.out (fun e => HNE.out (by injection e))
              have HN := Lib.hid (show OrdJ w p pf L.length 1 (8 + 4 * L.length + (k + 1)) (k + 1) f (.slice (some ⟨gw, 0, none⟩) L.length cw0) ws (k + 1) w7.drew from ⟨HJ.out.len, HJ.out.bl, (hk7.below ((Below.refl _ w7).drew)).mono (by omega), HJ.out.own⟩)
              clear hg7 hk7 HNX HJ HCL HNE
              go_upto_region 36 with fail
              refine wp_region_pm 15 (.rd 0 (.rd 1 (.rd 2 (.rd 3 (.rd 4 (.rd 5 (.rd 6 (.rd 7 (.rd 8 (.rd 9 (.rd 10 (.rd 11 (.rd 12 (.rd 13 (.rd 14 .fin))))))))))))))) (fun w' => By w' (· = pf) A7 b.length b ∧ w'.cell? ⟨gw, k, none⟩ = some (encStr b)) (by kernel_rfl) (by kernel_rfl) (fun c a d v w h => by cases d <;> exact h) ⟨hby, hcl7⟩ ?_
              clear hby hcl7
              repeat
                refine wpPm_read (v := ?_) (by rfl) (by rfl) (fun w' hS => ?_) (fun K hK => ?_)
                rotate_left
                · have hcv := run_str_by (c := c7) hS.1
                  have hcs := hS.2
                  have hwk := HWK.out
                  clear hS
                  go_simp
                  try with_reducible rfl
                go_simp
                refine hK _ ?_
                clear hK K
              show wpList _ _ _ _ _ _
              go_wp2_with fail
              go_roundw
              case rel => exact ⟨k + 1, k + 1, HLT.out, by go_num, HN⟩
              case measure => have := HLT.out; simp [intOf]; omega
            · obtain rfl : k = L.length := by omega
              have HX := Lib.hid (HJ.out.kx.fewer (gs := []) (fun x hx => no_mem hx))
              clear HJ hwl
              go_wp2_with fail
              refine (x_rewrite HX.out (by omega) 0 [1] (by decide) #[.int .u8 1] rfl (R.ord_no _ _ _ _)).mono ?_
              rintro e w7 ⟨rfl, h⟩
              have HB7 := Lib.hid h.bel
              clear h HX
              go_wp2_with fail
              refine (lives_any w7).mono ?_
              rintro e w8 ⟨rfl, hb⟩
              have HB8 := Lib.hid (HB7.out.trans (hb.mono HB7.out.size))
              clear hb HB7
              go_wp2
              go_ret
              exact ⟨rfl, HB8.out⟩
end Go.Proofs.YtjbepnkchoaipaaGreat
