import Derived.Test.YthjjbaiijelhnaaM32
import Derived.Test.YthjjbaiijelhnaaM51
import Derived.Test.YthjjbaiijelhnaaM46
import Derived.Test.YthjjbaiijelhnaaM45
import Derived.Test.YthjjbaiijelhnaaM48
import Derived.Deep.CutBlock
import Derived.Deep.CutRange
set_option linter.unusedVariables false
set_option linter.unusedSimpArgs false
/- Law 30: JournalsDamage. -/
namespace Go.Proofs.Ythjjbaiijelhnaa
open Go.RowKit Go.Lib Go.Maps Go.WideMaps Go.Sort
set_option maxRecDepth 100000
theorem dam_wo {o ln : Nat} (h1 : o ≤ 8388608) (h2 : ln ≤ 65548) : wrap64 ((o : Int) + (ln : Int)) = (o : Int) + (ln : Int) := IntWalk.wrap64_in _ (by omega)
theorem dam_ge {o ln x y K : Nat} (h1 : x ≤ y) (h2 : x = o + ln) (h3 : y ≤ K) : ¬ (K : Int) < (o : Int) + (ln : Int) := by omega
theorem dam_ms {o ln x y K B : Nat} (h1 : x ≤ y) (h2 : x = o + ln) (h3 : y ≤ K) (h4 : K < B) (h5 : 13 ≤ ln) : B - (o + ln) < B - o := by omega
theorem dam_lt {o ln x y K : Nat} (h1 : y ≤ x) (h2 : x = o + ln) (h3 : K < y) : (K : Int) < (o : Int) + (ln : Int) := by omega
theorem Sl.by_n {w : World} {M : Nat → Prop} {A : Option Addr} {n c : Nat} {l : J.B} (h : Sl w M (.slice A n c) l) (hn : l.length = n) : By w M A n l := by
  obtain ⟨A', c', e, _, hb⟩ := h.by
  injection e with e1 e2 e3
  subst e1
  rw [← hn]; exact hb
namespace J
theorem rec_bytes {RS : List B} (hR : Recs RS) {i : Nat} (hi : i < RS.length) : ∃ x5 x6 : UInt8, RS.flatten[off RS i + 5]? = some x5 ∧ RS.flatten[off RS i + 6]? = some x6 ∧ 13 + x5.toNat + 256 * x6.toNat = RS[i].length := by
  obtain ⟨num, L, e, hn, hl⟩ := hR i _ (List.getElem?_eq_getElem hi)
  have hfl := flat_at RS i hi
  have hg : ∀ j, RS.flatten[off RS i + j]? = (RS[i] ++ (RS.drop (i + 1)).flatten)[j]? := fun j => by rw [← hfl, List.getElem?_drop]
  have hr : RS[i] = UInt8.ofNat 0 :: UInt8.ofNat num :: UInt8.ofNat (num / 256) :: UInt8.ofNat (num / 256 / 256) :: UInt8.ofNat (num / 256 / 256 / 256) :: UInt8.ofNat (encs L).length :: UInt8.ofNat ((encs L).length / 256) :: (UInt8.ofNat ((encs L).length / 256 / 256) :: UInt8.ofNat ((encs L).length / 256 / 256 / 256) :: (encs L ++ leB (chk (body 0 num L)) 4)) := by
    rw [e]; simp [record, body, leB]
  refine ⟨UInt8.ofNat (encs L).length, UInt8.ofNat ((encs L).length / 256), ?_, ?_, ?_⟩
  · rw [hg, hr]; rfl
  · rw [hg, hr]; rfl
  · rw [e, record_len, UInt8.toNat_ofNat', UInt8.toNat_ofNat']
    omega
end J
namespace J
/-- What a prefix of the area recovers to is the contents behind a commit. -/
theorem dam_states {s' : St} {RS : List B} {D : B} (hP : Plain s') (hRS : recsOf s' = RS) (hD : RS.flatten = D) {states : List (List (B × B))} {at_ : List Nat} (hH : Hist True s' 0 states at_) {W k : Nat} (hW : W < RS.length) (h1 : off RS W ≤ k) (h2 : k < off RS (W + 1)) :
    ∃ nw, states[W]? = some nw ∧ Img.Holds True ⟨[], [], D.take k, []⟩ W nw := by
  subst hRS hD
  have hw : W < s'.writes.length := by simpa [recsOf] using hW
  have hos := off_succ (recsOf s') W hW
  have hge : (recsOf s')[W]? = some ((recsOf s')[W]) := List.getElem?_eq_getElem hW
  have ht : k - off (recsOf s') W < ((recsOf s')[W]?.getD []).length := by
    rw [hge]
    have e : ((some ((recsOf s')[W])).getD []).length = (recsOf s')[W].length := rfl
    rw [e]; omega
  have hc := hP.cut W (k - off (recsOf s') W) hw ht
  rw [show off (recsOf s') W + (k - off (recsOf s') W) = k by omega] at hc
  have hwr : s'.writes[W]? = some s'.writes[W] := List.getElem?_eq_getElem hw
  have hlen : k - off (recsOf s') W ≤ s'.writes[W].bs.length := by
    have e : (recsOf s')[W] = s'.writes[W].bs := by simp [recsOf]
    rw [e] at hos; omega
  obtain ⟨now, e1, e2⟩ := hH.holds W (k - off (recsOf s') W) (Nat.le_of_lt hw) (.inr ⟨_, hwr, hlen⟩)
  rw [hc, Nat.zero_add] at e2
  obtain ⟨a, e3, _⟩ := e2.recover
  have hk : k < (recsOf s').flatten.length := by
    have := off_le (recsOf s') (show W + 1 ≤ (recsOf s').length by omega)
    rw [off_all] at this; omega
  obtain ⟨nw, e4⟩ := dam_prefix hP.recs hP.reads hP.small W k hW h1 h2 [] (by simp)
  rw [e3] at e4
  injection e4 with e4
  have e5 : lastIx at_ (eff s' W (k - off (recsOf s') W)) = W := congrArg St.commits e4
  rw [e5] at e1 e2
  exact ⟨now, e1, e2⟩
end J
theorem dam_xor (bk : UInt8) (b : Nat) (h : 0 < b) (h2 : b < 256) : ∃ y : UInt8, bits .xor .u8 (bk.toNat : Int) (b : Int) = (y.toNat : Int) ∧ bk ≠ y := by
  have e : (UInt8.ofNat b).toNat = b := by rw [UInt8.toNat_ofNat']; omega
  refine ⟨bk ^^^ UInt8.ofNat b, ?_, fun hh => ?_⟩
  · rw [u8_xor_nat _ _ bk.toNat_lt h2, UInt8.toNat_xor, e]
  · have h3 := congrArg UInt8.toNat hh
    rw [UInt8.toNat_xor, e] at h3
    have h4 : bk.toNat ^^^ 0 = bk.toNat ^^^ b := by rw [Nat.xor_zero]; exact h3
    have := J.xor_cancel_l h4
    omega
theorem dam_take {w : World} {b o c : Nat} {l : J.B} (h : Sl w NoM (.slice (some ⟨b, o, none⟩) l.length c) l) (hb : b < w.heap.size) (hc : l.length ≤ c) (k : Nat) (hk : k ≤ l.length) : Sl w NoM (.slice (some ⟨b, o, none⟩) k c) (l.take k) := by
  have hl : (l.take k).length = k := by rw [List.length_take]; omega
  refine .inr ⟨b, o, c, by rw [hl], by rw [hl]; omega, hb, ?_⟩
  rw [hl]; exact (h.by_n rfl).take hk
theorem dam_min {j W : Nat} : (j + 1 ≤ W → min j W + 1 = min (j + 1) W) ∧ (¬ j + 1 ≤ W → min j W = min (j + 1) W) := by omega
theorem dam_le {o ln x y K : Nat} (h1 : x ≤ y) (h2 : x = o + ln) (h3 : y ≤ K) : (o : Int) + (ln : Int) ≤ (K : Int) := by omega
theorem dam_nle {o ln x y K : Nat} (h1 : y ≤ x) (h2 : x = o + ln) (h3 : K < y) : ¬ (o : Int) + (ln : Int) ≤ (K : Int) := by omega
theorem dam_ms2 {o ln B : Nat} (h1 : 13 ≤ ln) (h2 : o + 6 < B) : B - (o + ln) < B - o := by omega
theorem By.cells {w : World} {M : Nat → Prop} {b o n : Nat} {l : J.B} (h : By w M (some ⟨b, o, none⟩) n l) (k : Nat) (hk : k < l.length) : w.cell? ⟨b, o + k, none⟩ = some (u8 l[k]) := by
  obtain ⟨b', o', e, _, _, hc⟩ := h.cell (k := k) (by rw [← h.1]; exact hk)
  injection e with e; injection e with e1 e2; subst e1 e2; exact hc
theorem J.off_ge {RS : List J.B} (hR : J.Recs RS) : ∀ j, j ≤ RS.length → j ≤ J.off RS j
  | 0, _ => Nat.zero_le _
  | j + 1, h => by
    have h1 := J.off_ge hR j (Nat.le_of_succ_le h)
    have h2 := (J.rec_len hR (show j < RS.length from h)).1
    rw [J.off_succ RS j h]; omega
theorem dam_wm {j i o B : Nat} (h : j ≤ o) (h2 : o + 6 < B) (h3 : B ≤ 8388608) : wrap64 ((min j i : Nat) + 1 : Int) = ((min j i : Nat) : Int) + 1 := IntWalk.wrap64_in _ (by omega)
theorem dam_arith {o ln B : Nat} {x5 x6 : UInt8} (h : 13 + x5.toNat + 256 * x6.toNat = ln) (hB : B ≤ 8388608) (ho : o + 6 < B) :
    (IntKind.i64.wrap ((o : Int) + 13) = (o : Int) + 13 ∧ IntKind.i64.wrap ((o : Int) + 5) = (o : Int) + 5 ∧ IntKind.i64.wrap ((o : Int) + 6) = (o : Int) + 6 ∧ IntKind.i64.wrap (x5.toNat : Int) = (x5.toNat : Int) ∧ IntKind.i64.wrap (x6.toNat : Int) = (x6.toNat : Int)) ∧
    (IntKind.i64.wrap ((o : Int) + 13 + (x5.toNat : Int)) = (o : Int) + 13 + (x5.toNat : Int) ∧ IntKind.i64.wrap (256 * (x6.toNat : Int)) = 256 * (x6.toNat : Int) ∧ IntKind.i64.wrap ((o : Int) + 13 + (x5.toNat : Int) + 256 * (x6.toNat : Int)) = (o : Int) + (ln : Int) ∧ wrap64 ((o : Int) + 13 + (x5.toNat : Int) + 256 * (x6.toNat : Int)) = (o : Int) + (ln : Int)) ∧
    ((0 : Int) ≤ (o : Int) + 5 ∧ (o : Int) + 5 < (B : Int) ∧ (0 : Int) ≤ (o : Int) + 6 ∧ (o : Int) + 6 < (B : Int) ∧ ((o : Int) + 5).toNat = o + 5 ∧ ((o : Int) + 6).toNat = o + 6 ∧ (o : Int) < (B : Int)) := by
  have h5 := x5.toNat_lt
  have h6 := x6.toNat_lt
  have e : (o : Int) + 13 + (x5.toNat : Int) + 256 * (x6.toNat : Int) = (o : Int) + (ln : Int) := by omega
  refine ⟨⟨IntWalk.i64_in _ (by omega), IntWalk.i64_in _ (by omega), IntWalk.i64_in _ (by omega), IntWalk.i64_in _ (by omega), IntWalk.i64_in _ (by omega)⟩, ⟨IntWalk.i64_in _ (by omega), IntWalk.i64_in _ (by omega), ?_, ?_⟩, by omega⟩
  · rw [e]; exact IntWalk.i64_in _ (by omega)
  · rw [e]; exact IntWalk.wrap64_in _ (by omega)
theorem dam_lit (w : World) : (w.alloc (.cells #[] 5)).ownsRow w.heap.size 5 1 (.slice (some ⟨w.heap.size, 0, none⟩) 0 0) 0 (u8s []) :=
  World.ownsRow_lit (base := w.heap.size) (e := 5) (size := 1) w #[] 0 (Nat.le_refl _) (by unfold maxLen; omega) rfl
theorem dam_bad {RS : List J.B} (hR : J.Recs RS) {D : J.B} (hD : RS.flatten = D) {c' : Nat} {now' : List (J.B × J.B)} (hr : J.Reads 0 D 0 0 [] D.length c' now') (hs : D.length ≤ 8388608) {W k : Nat} (y : UInt8) (hw : W < RS.length) (h1 : J.off RS W + 9 ≤ k) (h2 : k < J.off RS (W + 1)) (hk : k < D.length) (hy : D[k] ≠ y)
    (v2 : Value) (w : World) (q2 : Sl w NoM v2 (D.set k y)) : Calls Try.prog 20 #[imgW (.slice none 0 0) (.slice none 0 0) v2 (.slice none 0 0)] w fun e w' => e = .returned (.tuple #[.pointer none, .int .i64 16]) ∧ Below w.heap.size w w' := by
  subst hD
  have hf := J.dam_found hR hr hs W k y hw h1 h2 hk hy [] (by simp)
  refine (at_recover w ⟨[], [], RS.flatten.set k y, []⟩ _ _ _ _ w (Below.refl _ _) Sl.nil_ Sl.nil_ q2 Sl.nil_ (by simp) (by simp) (by simpa using hs) (by simp)).mono ?_
  intro e w' h
  unfold RecRes2 at h
  rw [hf] at h
  exact h
theorem dam_lives (A : Option Addr) (c : Nat) (L : List J.Ac) (a b : Nat) (w : World) (ha : ActsAt w NoM A L) (hl : L.length ≤ 9223372036854775807) (hv : ∀ a ∈ L, a.val.length ≤ 9223372036854775807) (h : 120 < J.units L ∨ b = 0) :
    Calls Try.prog 7 #[.slice A L.length c, .int .u16 a, .int .u8 b] w fun e w' => e = .returned (.bool true) ∧ Below w.heap.size w w' := by
  have hbg := big_any A c L 120 w ha (by decide) hl hv
  have HL := Lib.hid (lives_any w)
  clear ha hl hv
  by_cases h1 : 120 < J.units L
  · rw [decide_eq_true h1] at hbg
    have HB := Lib.hid hbg
    clear hbg h1 h
    go_enter Try.func7, Try.ntmps7
    go_wp2_with fail
    refine HB.out.mono ?_
    rintro e Y ⟨rfl, hY⟩
    subst hY
    go_wp2_with fail
    refine HL.out.mono ?_
    rintro e w1 ⟨rfl, hb⟩
    go_wp2
    go_ret
    exact ⟨rfl, hb⟩
  · rw [decide_eq_false h1] at hbg
    have HB := Lib.hid hbg
    obtain rfl := h.resolve_left h1
    clear hbg h1 h
    go_enter Try.func7, Try.ntmps7
    go_wp2_with fail
    refine HB.out.mono ?_
    rintro e Y ⟨rfl, hY⟩
    subst hY
    go_wp2_with fail
    refine HL.out.mono ?_
    rintro e w1 ⟨rfl, hb⟩
    go_wp2
    go_ret
    exact ⟨rfl, hb⟩
set_option maxHeartbeats 6000000 in
theorem dam_small (A : Option Addr) (c : Nat) (L : List J.Ac) (a b : Nat) (w : World) (ha : ActsAt w NoM A L) (hu : J.units L ≤ 120) (hv : ∀ a ∈ L, a.val.length ≤ 9223372036854775807) (h65 : a < 65536) (hb0 : 0 < b) (hb2 : b < 256) :
    Calls Try.prog 7 #[.slice A L.length c, .int .u16 a, .int .u8 b] w fun e w' => e = .returned (.bool true) ∧ Below w.heap.size w w' := by
  have hll : L.length ≤ 120 := Nat.le_trans (J.units_len L) hu
  have hbg := big_any A c L 120 w ha (by decide) (by omega) hv
  rw [decide_eq_false (by omega)] at hbg
  have HBG := Lib.hid hbg
  have HA := Lib.hid ha
  have HU := Lib.hid hu
  have HQ := Lib.hid (And.intro h65 hb2)
  have hbz : ¬ (b : Int) = 0 := by omega
  have hbz2 : ((b : Int) == 0) = false := by simp; omega
  clear hbg ha hu hv h65 hb2
  go_enter Try.func7, Try.ntmps7
  go_wp2_with fail
  refine HBG.out.mono ?_
  rintro e Y ⟨rfl, hY⟩
  subst hY
  clear HBG
  go_wp2_with fail
  refine (at_new w w (Below.refl _ _)).mono ?_
  rintro e w1 ⟨p, rfl, hp0⟩
  have hi0 : CutI w p w1.heap.size 0 0 0 J.new J.lm0 (w1.alloc (.cells #[.slice none 0 0, .slice none 0 0, .bool false, .int .i64 0] 69)) := by
    obtain ⟨M, g1, g2, g3⟩ := hp0
    have hb : Below w1.heap.size w1 (w1.alloc (.cells #[.slice none 0 0, .slice none 0 0, .bool false, .int .i64 0] 69)) := (Below.refl _ w1).alloc (Nat.le_refl _) _
    exact ⟨⟨M, g1.below hb, ⟨.slice none 0 0, .slice none 0 0, heap_alloc_new _ _, fun hm => by have := (g2 _ hm).2; omega, Prs.nil_, Prs.nil_⟩, fun k hk => ⟨(g2 k hk).1, Nat.lt_of_lt_of_le (g2 k hk).2 hb.size⟩, g3.size⟩, g3.trans (hb.mono g3.size), J.kept_new 0, J.hist_new, rfl, rfl⟩
  have HI := Lib.hid hi0
  clear hi0 hp0
  go_wp2_with fail
  obtain ⟨M, hst, hmd, hM, hq⟩ := HI.out.st
  have hM1 : ∀ k, M k ∨ k = w1.heap.size → w.heap.size ≤ k := fun k hk => hk.elim (fun h => (hM k h).1) (fun e => by rw [e]; exact hq)
  refine (run_any 0 0 0 p w1.heap.size M J.new J.lm0 A c L 0 _ hst hmd (fun k h => (hM k h).2) HI.out.kept ⟨by have := HU.out; omega, by have := HU.out; omega⟩ (HA.out.old HI.out.bel hM1) HI.out.hist (by have := HU.out; omega)).mono ?_
  rintro e w2 ⟨sv, av, rfl, vs, M', s', m', states, at_, hC, hK, hH, hG⟩
  have hat := hC.at HI.out.bel (fun k h => (hM k h).1) hq
  obtain ⟨Av, cv, eav, _⟩ := nums_at hC.arow
  subst eav
  have HC := Lib.hid hC
  have HK := Lib.hid hK
  have HH := Lib.hid hH
  have HGD := Lib.hid hG
  have HAT := Lib.hid hat
  clear hC hK hH hG hat hst hmd hM hM1 hq HI
  generalize w1.heap.size = q at HC ⊢
  go_wp2_with fail
  refine (at_imageB HAT.out).mono ?_
  rintro e w3 ⟨v, rfl, hi, hb3⟩
  obtain ⟨I0, I1, I2, I3, rfl, x0, x1, x2, x3⟩ := imgC_parts hi
  have hA3 := (Below.refl _ w3).alloc (Nat.le_refl _) (.cells #[.slice I0 s'.disk.h0.length s'.disk.h0.length, .slice I1 s'.disk.h1.length s'.disk.h1.length, .slice I2 s'.disk.a0.length s'.disk.a0.length, .slice I3 s'.disk.a1.length s'.disk.a1.length] 35)
  have hb24 := hb3.alloc hb3.size (.cells #[.slice I0 s'.disk.h0.length s'.disk.h0.length, .slice I1 s'.disk.h1.length s'.disk.h1.length, .slice I2 s'.disk.a0.length s'.disk.a0.length, .slice I3 s'.disk.a1.length s'.disk.a1.length] 35)
  have HXX := Lib.hid (And.intro (And.intro (x0.step (M' := NoM) (Step.of_below hA3)) (x1.step (M' := NoM) (Step.of_below hA3))) (And.intro (x2.step (M' := NoM) (Step.of_below hA3)) (x3.step (M' := NoM) (Step.of_below hA3))))
  have HB24 := Lib.hid hb24
  have HROW := Lib.hid (heap_alloc_new w3 (.cells #[.slice I0 s'.disk.h0.length s'.disk.h0.length, .slice I1 s'.disk.h1.length s'.disk.h1.length, .slice I2 s'.disk.a0.length s'.disk.a0.length, .slice I3 s'.disk.a1.length s'.disk.a1.length] 35))
  clear x0 x1 x2 x3 hA3 hb24 hi hb3
  go_upto_region 8 with fail
  generalize w3.alloc (.cells #[.slice I0 s'.disk.h0.length s'.disk.h0.length, .slice I1 s'.disk.h1.length s'.disk.h1.length, .slice I2 s'.disk.a0.length s'.disk.a0.length, .slice I3 s'.disk.a1.length s'.disk.a1.length] 35) = w4 at HXX HB24 HROW ⊢
  generalize w3.heap.size = ib at HROW ⊢
  have hci := fun j => cell_of_row w4 ib j _ _ _ HROW.out
  by_cases hz : s'.disk.h0.length + s'.disk.h1.length = 0
  · have hz0 : s'.disk.h0.length = 0 := by omega
    have hz1 : s'.disk.h1.length = 0 := by omega
    have hpl := J.plain_of (u := 0 + J.units L) HK.out (by have := HU.out; omega) (List.eq_nil_of_length_eq_zero hz0) (List.eq_nil_of_length_eq_zero hz1)
    have HPL := Lib.hid hpl
    clear hpl
    have hd := HPL.out.disk
    have hrecs := HPL.out.recs
    have hreads := HPL.out.reads
    have hsm := HPL.out.small
    clear hz hz0 hz1
    obtain ⟨RS, hRS⟩ : ∃ RS, J.recsOf s' = RS := ⟨_, rfl⟩
    rw [hRS] at hd hrecs hreads hsm
    have HRS := Lib.hid hRS
    have HDK := Lib.hid hd
    generalize s'.disk = D at hd HXX HROW hci ⊢
    subst hd
    have HBX := Lib.hid (show Sl w4 NoM (.slice I2 RS.flatten.length RS.flatten.length) RS.flatten from HXX.out.2.1)
    have HBY := Lib.hid (show Sl w4 NoM (.slice I3 0 0) [] from HXX.out.2.2)
    have HRD := Lib.hid hreads
    have HRC := Lib.hid hrecs
    clear hreads hrecs hRS
    generalize hB : RS.flatten = B at *
    have HB := Lib.hid hB
    clear hB
    by_cases hB0 : B.length = 0
    · have hB1 : ((B.length : Int) == 0) = true := by simp [hB0]
      have hB2 : (B.length : Int) = 0 := by omega
      go_wp2_with fail
      refine (lives_any w4).mono ?_
      rintro e w5 ⟨rfl, hb5⟩
      have HB5 := Lib.hid (HB24.out.trans (hb5.mono HB24.out.size))
      clear hb5 hci
      go_wp2_with fail
      go_ret
      exact ⟨rfl, HAT.out.bel.trans (HB5.out.mono HAT.out.bel.size)⟩
    · have hB1 : ((B.length : Int) == 0) = false := by simp; intro h; exact hB0 (by rw [h]; rfl)
      have hB2 : ¬ (B.length : Int) = 0 := by omega
      have hwa : wrap64 (a : Int) = (a : Int) := IntWalk.wrap64_in _ (by have := HQ.out.1; omega)
      have hrem : (a : Int).tmod (B.length : Int) = ((a % B.length : Nat) : Int) := rfl
      have hKl : a % B.length < B.length := Nat.mod_lt _ (by omega)
      generalize a % B.length = KK at hrem hKl
      obtain ⟨W, hW1, hW2, hW3⟩ := J.find_rec RS.length KK rfl (by rw [HB.out]; exact hKl)
      go_wp2_with fail
      obtain ⟨bb, ob, eI, hbl, _, hcl⟩ := (HBX.out.by_n rfl).2 (by omega)
      subst eI
      have HCL := Lib.hid hcl
      have HSM := Lib.hid hsm
      clear hcl hci
      go_loopw [18] (fun fr wr => ∃ i : Nat, i ≤ W ∧ fr = .int .i64 (J.off RS i : Nat) ∧ Hid (Below w4.heap.size w4 wr)) (fun fr _ => B.length - (intOf fr).toNat)
      case atStart => exact ⟨0, Nat.zero_le _, rfl, Lib.hid (Below.refl _ _)⟩
      case round =>
        obtain ⟨i, hi, rfl, HBR⟩ := hrel
        have hiN : i < RS.length := by omega
        obtain ⟨x5, x6, g5, g6, gs⟩ := J.rec_bytes HRC.out hiN
        rw [HB.out] at g5 g6
        have hos := J.off_succ RS i hiN
        have hol : J.off RS i ≤ J.off RS W := J.off_le RS hi
        have hol2 : i < W → J.off RS (i + 1) ≤ J.off RS W := fun h => J.off_le RS h
        have hrl := J.rec_len HRC.out hiN
        obtain ⟨l5, e5⟩ := List.getElem?_eq_some_iff.1 g5
        obtain ⟨l6, e6⟩ := List.getElem?_eq_some_iff.1 g6
        have hc5 := (HBR.out.cell (p := ⟨bb, ob + (J.off RS i + 5), none⟩) hbl).trans (HCL.out _ l5)
        have hc6 := (HBR.out.cell (p := ⟨bb, ob + (J.off RS i + 6), none⟩) hbl).trans (HCL.out _ l6)
        rw [e5] at hc5
        rw [e6] at hc6
        have HC5 := Lib.hid hc5
        have HC6 := Lib.hid hc6
        have hWs : J.off RS (W + 1) ≤ J.off RS (i + 1) ∨ i < W := by
          by_cases h : i < W
          · exact .inr h
          · have : i = W := by omega
            subst this; exact .inl (Nat.le_refl _)
        clear g5 g6 e5 e6 hc5 hc6
        generalize hoo : J.off RS i = o at *
        generalize hln : RS[i].length = ln at *
        have HOO := Lib.hid hoo
        have HLN := Lib.hid hln
        clear hoo hln
        have hu5 := x5.toNat_lt
        have hu6 := x6.toNat_lt
        have hsum : (13 : Int) + (x5.toNat : Int) + 256 * (x6.toNat : Int) = (ln : Int) := by omega
        have q1 : IntKind.i64.wrap ((o : Int) + 5) = (o : Int) + 5 := IntWalk.i64_in _ (by omega)
        have q2 : IntKind.i64.wrap ((o : Int) + 6) = (o : Int) + 6 := IntWalk.i64_in _ (by omega)
        have q3 : IntKind.i64.wrap (x5.toNat : Int) = (x5.toNat : Int) := IntWalk.i64_in _ (by omega)
        have q4 : IntKind.i64.wrap (x6.toNat : Int) = (x6.toNat : Int) := IntWalk.i64_in _ (by omega)
        have q5 : IntKind.i64.wrap (13 + (x5.toNat : Int)) = 13 + (x5.toNat : Int) := IntWalk.i64_in _ (by omega)
        have q6 : IntKind.i64.wrap (256 * (x6.toNat : Int)) = 256 * (x6.toNat : Int) := IntWalk.i64_in _ (by omega)
        have q7 : IntKind.i64.wrap (ln : Int) = (ln : Int) := IntWalk.i64_in _ (by omega)
        have q16 : IntKind.i64.wrap (13 + (x5.toNat : Int) + 256 * (x6.toNat : Int)) = (ln : Int) := by rw [hsum]; exact q7
        have q8 : (0 : Int) ≤ (o : Int) + 5 ∧ (o : Int) + 5 < (B.length : Int) := by omega
        have q9 : (0 : Int) ≤ (o : Int) + 6 ∧ (o : Int) + 6 < (B.length : Int) := by omega
        have q10 : ((o : Int) + 5).toNat = o + 5 := by omega
        have q11 : ((o : Int) + 6).toNat = o + 6 := by omega
        have q12 : (0 : Int) ≤ (o : Int) + 5 := q8.1
        have q13 : (o : Int) + 5 < (B.length : Int) := q8.2
        have q14 : (0 : Int) ≤ (o : Int) + 6 := q9.1
        have q15 : (o : Int) + 6 < (B.length : Int) := q9.2
        go_upto_region 16 with fail
        refine wp_region_pm 14 (.rd 0 (.rd 1 (.rd 2 (.rd 3 (.rd 4 (.rd 5 (.rd 6 (.rd 7 (.rd 8 (.rd 9 (.rd 10 (.rd 11 (.rd 12 (.rd 13 .fin)))))))))))))) (fun w' => Below wr.heap.size wr w') (by kernel_rfl) (by kernel_rfl) (fun c a d v w h => by cases d <;> exact h) (Below.refl _ wr).drew ?_
        repeat
          refine wpPm_read (v := ?_) (by rfl) (by rfl) (fun w' hS => ?_) (fun K hK => ?_)
          rotate_left
          · have hc5S := (hS.cell (p := ⟨bb, ob + (o + 5), none⟩) (cell_lt HC5.out)).trans HC5.out
            have hc6S := (hS.cell (p := ⟨bb, ob + (o + 6), none⟩) (cell_lt HC6.out)).trans HC6.out
            clear hS
            go_simp
            try with_reducible rfl
          go_simp
          refine hK _ ?_
          clear hK K
        have HBD := Lib.hid (HBR.out.drew)
        have hwo : wrap64 ((o : Int) + (ln : Int)) = (o : Int) + (ln : Int) := dam_wo (Nat.le_trans (Nat.le_of_lt (Nat.lt_of_le_of_lt (Nat.le_add_right o 5) l5)) HSM.out) hrl.2
        have HGE := Lib.hid (fun h : i < W => dam_ge (hol2 h) hos hW2)
        have HLT := Lib.hid (fun h : ¬ i < W => dam_lt (hWs.resolve_right h) hos hW3)
        have HOS := Lib.hid hos
        have HMS := Lib.hid (fun h : i < W => dam_ms (hol2 h) hos hW2 hKl hrl.1)
        clear gs hsm HC5 HC6 HBR q1 q2 q3 q4 q8 q9 q10 q11 q12 q13 q14 q15 hol hol2 hos hrl l5 l6 hWs hu5 hu6
        show wpList _ _ _ _ _ _
        by_cases hiW : i < W
        · have hge := HGE.out hiW
          go_wp2_with fail
          go_roundw
          case rel => exact ⟨i + 1, hiW, by rw [HOS.out, hwo]; rfl, HBD⟩
          case measure => rw [hwo]; exact HMS.out hiW
        · have hlt := HLT.out hiW
          obtain rfl : i = W := Nat.le_antisymm hi (Nat.le_of_not_lt hiW)
          have HW := Lib.hid (And.intro hW1 (And.intro hW2 hW3))
          have HKL := Lib.hid hKl
          generalize wr.drew = x1 at HBD ⊢
          have HR0 := Lib.hid (dam_lit x1)
          have hby := (HBX.out.by_n rfl)
          have HBY1 := Lib.hid ((hby.below HBD.out).alloc (.cells #[] 5))
          have hB8 : 0 + B.length ≤ 100000000 := Nat.le_trans (Nat.le_of_eq (Nat.zero_add _)) (Nat.le_trans HSM.out (by decide))
          have HB8 := Lib.hid hB8
          clear hby hB8 HGE HLT HMS HLN hW1 hW2 hW3 hi hiN hiW HCL hwa hrem
          go_wp2_with (at_builtin; go_loud (refine wpList_app_by rfl _ _ rfl x1.heap.size _ 0 [] rfl HR0.out NoM (some ⟨bb, ob, none⟩) B.length B.length B rfl HBY1.out HB8.out (by simp) ?_))
          intro v20 w20 hown20 hg20 hat20 hnil20
          clear q5 q6 q7 q16 hsum hlt hwo
          have hb20 := ((Below.refl x1.heap.size x1).alloc (Nat.le_refl _) (.cells #[] 5)).grown hg20 (by simp) (fun j hj => (HR0.out.lt j hj).1)
          have hown20 := rec_row hown20 (l' := B) rfl
          have HX20 := Lib.hid (HBD.out.trans (hb20.mono HBD.out.size))
          obtain ⟨g, cap, rfl, hbase, cur, hg, hcm⟩ : ∃ g cap, v20 = .slice (some ⟨g, 0, none⟩) B.length cap ∧ x1.heap.size ≤ g ∧ ∃ cur, w20.heap[g]? = some (.cells cur 5 (0, 0)) ∧ B.length ≤ cap := by
            rcases hown20.2 with ⟨_, h0⟩ | ⟨g, cap, cur, e, hbase, hbk, h1, _⟩
            · exact absurd h0 hB0
            · exact ⟨g, cap, e, hbase, cur, hbk, h1⟩
          have hck := hown20.cellAt KK (by rw [Nat.mul_one]; exact HKL.out)
          rw [show (u8s B)[KK]? = some (u8 (B[KK]'HKL.out)) from u8s_get B KK HKL.out] at hck
          have hfz : w20.frozen? ⟨g, KK, none⟩ = false := by simp [World.frozen?, hg]
          have HO20 := Lib.hid hown20
          have HG := Lib.hid hg
          have HBZ := Lib.hid hbase
          have HB20 := Lib.hid hb20
          generalize hbk : B[KK]'HKL.out = bk at hck
          have HBK := Lib.hid hbk
          have hkr : (0 : Int) ≤ (KK : Int) ∧ (KK : Int) < (B.length : Int) := ⟨Int.natCast_nonneg _, Int.ofNat_lt.2 HKL.out⟩
          obtain ⟨y, hxor, hyne⟩ := dam_xor bk b hb0 HQ.out.2
          have HY := Lib.hid hyne
          have hwo9 : wrap64 ((o : Int) + 9) = (o : Int) + 9 := IntWalk.wrap64_in _ (by have h1 := HW.out.2.1; have h2 := HOO.out; have h3 := HKL.out; have h4 := HSM.out; rw [h2] at h1; clear hB0 hB1 hB2 hbz hbz2; omega)
          have hsto := (hown20.stored KK (u8 y)).1
          rw [show (u8s B).set KK (u8 y) = u8s (B.set KK y) from (List.map_set ..).symm] at hsto
          have HST := Lib.hid hsto
          clear hown20 hg20 hat20 hnil20 hb20 hg hbk hbase HR0 HBY1 HB8 hsto hyne
          go_upto_if 142 with fail
          refine at_world (fun X => Below w4.heap.size w4 X ∧ X.ownsRow x1.heap.size 5 1 (.slice (some ⟨g, 0, none⟩) B.length cap) B.length (u8s (B.set KK y))) ⟨HX20.out.setCell (Nat.le_trans HBD.out.size HBZ.out) _, HST.out⟩ ?_
          rintro x2 ⟨hx2, ho2⟩
          have HX2 := Lib.hid hx2
          have HO2 := Lib.hid ho2
          clear hx2 ho2 HST HO20 HG HB20 HX20 HBZ hck hfz hkr hxor
          obtain ⟨dd, hdd⟩ : ∃ dd, decide ((o : Int) + 9 ≤ (KK : Int)) = dd := ⟨_, rfl⟩
          rw [hdd]
          try rw [hwo9]
          have HDD := Lib.hid hdd
          clear hdd hwo9
          go_cut [21, 22] from 143 to 151 (fun _ _ wx => Below x2.heap.size x2 wx)
          case first =>
            cases dd with
            | true =>
              have h9 : (o : Int) + 9 ≤ (KK : Int) := of_decide_eq_true HDD.out
              have hbad := dam_bad HRC.out HB.out HRD.out HSM.out y HW.out.1 (by rw [HOO.out]; exact Int.ofNat_le.1 h9) HW.out.2.2 HKL.out (by rw [HBK.out]; exact HY.out) (.slice (some ⟨g, 0, none⟩) B.length cap) x2 (own_sl (rec_row HO2.out rfl) (fun _ h => h.elim))
              have HBAD := Lib.hid hbad
              clear hbad h9
              go_wp2_with fail
              refine HBAD.out.mono ?_
              rintro e w6 ⟨rfl, hb6⟩
              have HB6 := Lib.hid hb6
              clear hb6
              go_wp2_with fail
              go_meet
              case rel => exact HB6.out
            | false =>
              go_wp2_with fail
              go_meet
              case rel => exact Below.refl _ _
          case rest =>
            have HX3 := Lib.hid (HX2.out.trans (hcut.mono HX2.out.size))
            obtain ⟨nw, hst1, hhold⟩ := J.dam_states HPL.out HRS.out HB.out HH.out HW.out.1 HW.out.2.1 HW.out.2.2
            have HNW := Lib.hid hst1
            have HHO := Lib.hid hhold
            have hrow3 := (HX3.out.block ib (Array.getElem?_eq_some_iff.1 HROW.out).1).trans HROW.out
            have hk0 : (0 : Int) ≤ (KK : Int) := Int.natCast_nonneg _
            have hk1 : (KK : Int) ≤ (B.length : Int) := Int.ofNat_le.2 (Nat.le_of_lt HKL.out)
            have hk2 : ¬ (KK : Int) < 0 := by have := hk0; intro h; exact absurd (Int.lt_of_le_of_lt this h) (by decide)
            clear hst1 hhold hcut
            go_upto_region 25 with fail
            refine wp_region_pm 13 (.rd 0 (.rd 1 (.rd 2 (.rd 3 (.rd 4 (.rd 5 (.rd 6 (.rd 7 (.wr 8 (.rd 9 (.rd 10 (.rd 11 (.wr 12 .fin))))))))))))) (fun w' => w'.heap[ib]? = some (.cells #[.slice I0 ([] : J.B).length ([] : J.B).length, .slice I1 ([] : J.B).length ([] : J.B).length, .slice (some ⟨bb, ob, none⟩) B.length B.length, .slice I3 ([] : J.B).length ([] : J.B).length] 35 (0, 0))) (by kernel_rfl) (by kernel_rfl) (fun c a d v w h => by cases d <;> exact h) hrow3 ?_
            repeat
              refine wpPm_read (v := ?_) (by rfl) (by rfl) (fun w' hS => ?_) (fun K hK => ?_)
              rotate_left
              · have hci := fun j => cell_of_row w' ib j _ _ _ hS
                clear hS
                go_simp
                try with_reducible rfl
              go_simp
              refine hK _ ?_
              clear hK K
            refine wpPm_write (by rfl) (fun K hK => ?_)
            go_simp
            have hHX := HX3.out.drew
            refine (at_recover_q (q := True) wc ⟨[], [], B.take KK, []⟩ i nw HHO.out (.slice none 0 0) (.slice none 0 0) (.slice (some ⟨bb, ob, none⟩) KK B.length) (.slice I3 0 0) wc.drew (Below.refl _ wc).drew Sl.nil_ Sl.nil_ ((dam_take HBX.out hbl (Nat.le_refl _) KK (Nat.le_of_lt HKL.out)).step (Step.of_below hHX)) (HBY.out.step (Step.of_below hHX)) (by simp) (by simp)).mono ?_
            rintro e w7 ⟨p2, s2, rfl, hat2, e1, e2, hb7⟩
            have HAT2 := Lib.hid hat2
            have HE := Lib.hid (And.intro e1 e2)
            have hb07 := hHX.trans (hb7.mono hHX.size)
            have HX7 := Lib.hid hb07
            have hrow7 := (hb7.block ib (Nat.lt_of_lt_of_le (Array.getElem?_eq_some_iff.1 HROW.out).1 hHX.size)).trans hrow3
            refine hK.out _ _ _ (fun _ h => h) hrow7 ?_
            clear hK K hat2 e1 e2 hb7 hb07 hHX
            repeat
              refine wpPm_read (v := ?_) (by rfl) (by rfl) (fun w' hS => ?_) (fun K hK => ?_)
              rotate_left
              · have hci := fun j => cell_of_row w' ib j _ _ _ hS
                clear hS
                go_simp
                try with_reducible rfl
              go_simp
              refine hK _ ?_
              clear hK K
            refine wpPm_write (by rfl) (fun K hK => ?_)
            go_simp
            refine hK.out _ _ _ (fun _ h => h) hrow7 ?_
            clear hK K hrow7 hrow3 hk0 hk1 hk2
            show wpList _ _ _ _ _ _
            go_wp2_with fail
            go_loopw [25, 26] (fun nv iv wr => ∃ j : Nat, j ≤ RS.length ∧ iv = .int .i64 (J.off RS j : Nat) ∧ nv = .int .i64 (min j i : Nat) ∧ Hid (Below w7.heap.size w7 wr)) (fun _ iv _ => B.length - (intOf iv).toNat)
            case atStart => exact ⟨0, Nat.zero_le _, rfl, by rw [Nat.zero_min]; rfl, Lib.hid (Below.refl _ _)⟩
            case round =>
              obtain ⟨j, hj, rfl, rfl, HBR⟩ := hrel
              by_cases hjN : j < RS.length
              · obtain ⟨z5, z6, g5, g6, gs⟩ := J.rec_bytes HRC.out hjN
                rw [HB.out] at g5 g6
                have hos := J.off_succ RS j hjN
                obtain ⟨l5, e5⟩ := List.getElem?_eq_some_iff.1 g5
                obtain ⟨l6, e6⟩ := List.getElem?_eq_some_iff.1 g6
                have hwb := HX7.out.trans (HBR.out.mono HX7.out.size)
                have hcl : ∀ (k : Nat) (h : k < B.length), wr.cell? ⟨bb, ob + k, none⟩ = some (u8 B[k]) := fun k h => (hwb.cell (p := ⟨bb, ob + k, none⟩) hbl).trans ((By.cells (HBX.out.by_n rfl)) k h)
                have hc5 := hcl _ l5
                have hc6 := hcl _ l6
                rw [e5] at hc5
                rw [e6] at hc6
                have HC5 := Lib.hid hc5
                have HC6 := Lib.hid hc6
                obtain ⟨⟨a1, a2, a3, a4, a5⟩, ⟨a6, a7, a8, a9⟩, ⟨a10, a11, a12, a13, a14, a15, a16⟩⟩ := dam_arith gs HSM.out l6
                have HLE := Lib.hid (fun h : j + 1 ≤ i => dam_le (J.off_le RS h) hos HW.out.2.1)
                have HNL := Lib.hid (fun h : ¬ j + 1 ≤ i => dam_nle (J.off_le RS (show i + 1 ≤ j + 1 by omega)) hos HW.out.2.2)
                have HOS2 := Lib.hid hos
                have HWM := Lib.hid (dam_wm (i := i) (J.off_ge HRC.out j (Nat.le_of_lt hjN)) l6 HSM.out)
                have HMS2 := Lib.hid (dam_ms2 (J.rec_len HRC.out hjN).1 l6)
                clear g5 g6 e5 e6 l5 l6 hwb hcl hc5 hc6 hos gs hj
                generalize J.off RS j = o2 at *
                generalize hln2 : RS[j].length = ln2 at *
                clear hln2
                go_upto_region 29 with fail
                refine wp_region_pm 16 (.rd 0 (.rd 1 (.rd 2 (.rd 3 (.rd 4 (.rd 5 (.rd 6 (.rd 7 (.rd 8 (.rd 9 (.rd 10 (.rd 11 (.rd 12 (.rd 13 (.rd 14 (.rd 15 .fin)))))))))))))))) (fun w' => Below wr.heap.size wr w') (by kernel_rfl) (by kernel_rfl) (fun c a d v w h => by cases d <;> exact h) (Below.refl _ wr).drew ?_
                repeat
                  refine wpPm_read (v := ?_) (by rfl) (by rfl) (fun w' hS => ?_) (fun K hK => ?_)
                  rotate_left
                  · have hc5S := (hS.cell (p := ⟨bb, ob + (o2 + 5), none⟩) (cell_lt HC5.out)).trans HC5.out
                    have hc6S := (hS.cell (p := ⟨bb, ob + (o2 + 6), none⟩) (cell_lt HC6.out)).trans HC6.out
                    clear hS
                    go_simp
                    try with_reducible rfl
                  go_simp
                  refine hK _ ?_
                  clear hK K
                have HBD2 := Lib.hid (HBR.out.drew)
                clear HC5 HC6 HBR a1 a2 a3 a4 a5 a10 a11 a12 a13 a14 a15
                show wpList _ _ _ _ _ _
                by_cases hjW : j + 1 ≤ i
                · have hle := HLE.out hjW
                  go_wp2_with fail
                  go_roundw
                  case rel => exact ⟨j + 1, hjN, by rw [HOS2.out]; first | rfl | (rw [a9]; rfl), by rw [← dam_min.1 hjW]; first | rfl | (rw [HWM.out]; rfl), HBD2⟩
                  case measure => first | exact HMS2.out | (rw [a9]; exact HMS2.out)
                · have hnl := HNL.out hjW
                  go_wp2_with fail
                  go_roundw
                  case rel => exact ⟨j + 1, hjN, by rw [HOS2.out]; first | rfl | (rw [a9]; rfl), by rw [← dam_min.2 hjW], HBD2⟩
                  case measure => first | exact HMS2.out | (rw [a9]; exact HMS2.out)
              · have hje : J.off RS j = B.length := by
                  have e : j = RS.length := Nat.le_antisymm hj (Nat.le_of_not_lt hjN)
                  rw [e, J.off_all, HB.out]
                have hmin : min j i = i := Nat.min_eq_right (Nat.le_trans (Nat.le_of_lt HW.out.1) (Nat.le_of_not_lt hjN))
                rw [hje, hmin]
                obtain ⟨gS, cS, vS, esv, hgS, hcS, hpw, hnlt⟩ := HC.out.get _ _ HNW.out
                subst esv
                obtain ⟨An, cn, rfl⟩ := hpw.slice_
                have hwb := HX7.out.trans (HBR.out.mono HX7.out.size)
                have hw2 := HB24.out.trans (hwb.mono HB24.out.size)
                have hcS2 := (hw2.cell (p := ⟨gS, i, none⟩) hgS).trans hcS
                obtain ⟨M2, k1, k2, k3⟩ := HAT2.out
                have hgood := (HGD.out nw (List.mem_of_getElem? HNW.out)).more (show 0 + J.units L ≤ 540 by have := HU.out; rw [Nat.zero_add]; exact Nat.le_trans this (by decide))
                have hp5 : Prs wr NoM (.slice An nw.length cn) nw := ((hpw.step (Step.of_below hw2)).weak (M' := NoM) (fun _ h => h.elim)).prs (M' := NoM) (fun _ h => h.elim)
                have hst5 := k1.below HBR.out
                have hasc5 : J.Asc nw := by
                  obtain ⟨bn, bw, ch, wr0, b0, b1, b2, b3, d0, d1, d2, d3, q1, q2, q3, q4⟩ := hst5
                  rw [← HE.out.1]; exact q3.now.elim fun _ h => h.2.1
                have hag := agrees_any p2 M2 s2 (.slice An nw.length cn) wr hst5 (by rw [HE.out.1]; exact hp5) (by rw [HE.out.1]; exact Nat.le_trans (J.good_len hgood hasc5) (by decide)) (by rw [HE.out.1]; exact J.good_small hgood (Nat.le_refl _))
                rw [HE.out.2] at hag
                have HAG := Lib.hid hag
                have HN := Lib.hid hnlt
                have HFIN := Lib.hid (fun (X Y : World) (h1 : Below wr.heap.size wr X) (h2 : Below X.heap.size X Y) => HAT.out.bel.trans ((hw2.trans ((h1.trans (h2.mono h1.size)).mono hw2.size)).mono HAT.out.bel.size))
                have HLV := Lib.hid (fun X => lives_any X)
                have hsz0 : (0 : Int) ≤ (i : Int) := Int.natCast_nonneg _
                have hsz1 : (i : Int) < (states.length : Int) := Int.ofNat_lt.2 hnlt
                clear hag hpw hcS k1 k2 k3 hgood hp5 hst5 hasc5 hwb hw2 hnlt hje hmin hj hjN HBR
                go_wp2_with fail
                refine HAG.out.mono ?_
                rintro e wA ⟨rfl, hbA⟩
                have HBA := Lib.hid hbA
                clear hbA HAG
                go_wp2_with fail
                refine (HLV.out wA).mono ?_
                rintro e wB ⟨rfl, hbB⟩
                have HBB := Lib.hid (HFIN.out _ _ HBA.out hbB)
                clear hbB HBA HFIN
                go_wp2_with fail
                go_ret
                exact ⟨rfl, HBB.out⟩
  · have hz2 : (0 : Int) < (s'.disk.h0.length : Int) + (s'.disk.h1.length : Int) := by omega
    have hh0 := HK.out.inv.disk.h0.len
    have hh1 := HK.out.inv.disk.h1.len
    have hwz : wrap64 ((s'.disk.h0.length : Int) + (s'.disk.h1.length : Int)) = (s'.disk.h0.length : Int) + (s'.disk.h1.length : Int) := IntWalk.wrap64_in _ (by omega)
    have HHO := Lib.hid HK.out.inv.disk.holds
    go_wp2_with fail
    clear hci
    refine (at_recover_q (q := True) w4 s'.disk s'.commits s'.com HHO.out _ _ _ _ w4 (Below.refl _ _) HXX.out.1.1 HXX.out.1.2 HXX.out.2.1 HXX.out.2.2 (by omega) (by omega)).mono ?_
    rintro e w5 ⟨p2, s2, rfl, hat2, e1, e2, hb5⟩
    have HB25 := Lib.hid (HB24.out.trans (hb5.mono HB24.out.size))
    have hlast := HH.out.last
    obtain ⟨gS, cS, vS, esv, hgS, hcS, hpw, hnlt⟩ := HC.out.get _ _ hlast
    subst esv
    obtain ⟨An, cn, rfl⟩ := hpw.slice_
    obtain ⟨M2, k1, k2, k3⟩ := hat2
    have hcom := HH.out.com
    have hln := HH.out.len
    have hps := HH.out.pos
    have hgood := (HGD.out s'.com (List.mem_of_getElem? hlast)).more (show 0 + J.units L ≤ 540 by have := HU.out; omega)
    have hp5 : Prs w5 NoM (.slice An s'.com.length cn) s'.com := (((hpw.step (Step.of_below HB24.out)).weak (M' := NoM) (fun _ h => h.elim)).prs (M' := NoM) (fun _ h => h.elim)).step (Step.of_below hb5)
    have hag := agrees_any p2 M2 s2 (.slice An s'.com.length cn) w5.drew (k1.below (Below.refl _ w5).drew) (by rw [e1]; exact hp5.step (Step.of_below (Below.refl _ w5).drew)) (by rw [e1]; exact Nat.le_trans (J.good_len hgood HK.out.inv.casc) (by decide)) (by rw [e1]; exact J.good_small hgood (Nat.le_refl _))
    rw [e2] at hag
    have HAG := Lib.hid hag
    obtain ⟨nv, wv, hrow, _, _, _⟩ := HC.out.md
    have hmc : m'.commits = s'.commits := HK.out.rel.com
    rw [hmc] at hrow
    have HRW := Lib.hid ((HB25.out.block _ (Array.getElem?_eq_some_iff.1 hrow).1).trans hrow)
    have HCS := Lib.hid ((HB25.out.cell (p := ⟨gS, at_.length - 1, none⟩) hgS).trans hcS)
    clear hag k2 k3 e1 e2 hp5 hpw hcS hgS hrow hb5 hlast hgood hh0 hh1
    have hal : at_.length ≤ 541 := by have h2 := HK.out.bud.cm; have h3 := HU.out; omega
    have hsl : states.length = (at_.length - 1) + 1 := by omega
    generalize at_.length - 1 = N at HCS hnlt hsl
    have hNs : N ≤ 541 := by omega
    have hwN : IntKind.i64.wrap (N : Int) = (N : Int) := IntWalk.i64_in _ (by omega)
    have hwN1 : IntKind.i64.wrap ((N : Int) + 1) = (N : Int) + 1 := IntWalk.i64_in _ (by omega)
    have hwN2 : IntKind.i64.wrap (((N + 1 : Nat) : Int) - 1) = (N : Int) := by rw [show (((N + 1 : Nat) : Int) - 1) = (N : Int) by omega]; exact hwN
    have hlt2 : (N : Int) < (N : Int) + 1 := by omega
    rw [hsl]
    go_upto_region 10 with fail
    refine wp_region_plan 22 [(0, false), (1, false), (2, false), (3, false), (4, false), (5, false), (6, false), (7, false), (8, false), (9, false), (10, false), (11, false), (12, false), (13, false), (14, false), (15, false), (16, false), (17, true), (18, false), (19, false), (20, true), (21, false)] (fun w' => Below w5.heap.size w5 w') (by kernel_rfl) (by kernel_rfl) (fun c a d v w h => by cases d <;> exact h) (Below.refl _ w5).drew ?_
    repeat
      first
      | refine wpPlan_read (v := ?_) (by rfl) (by rfl) (fun w' hS => ?_) (fun K hK => ?_)
        rotate_left
        · have hcsS := (hS.cell (p := ⟨gS, N, none⟩) (cell_lt HCS.out)).trans HCS.out
          have hcqS := fun j => cell_of_row w' q j _ _ _ ((hS.block q (Array.getElem?_eq_some_iff.1 HRW.out).1).trans HRW.out)
          clear hS
          go_simp
          try with_reducible rfl
        go_simp
        refine hK _ ?_
        clear hK K
      | refine wpPlan_readG (v := ?_) (by rfl) (by rfl) (fun w' hS => ?_) (fun K hK => ?_)
        rotate_left
        · have hcsS := (hS.cell (p := ⟨gS, N, none⟩) (cell_lt HCS.out)).trans HCS.out
          have hcqS := fun j => cell_of_row w' q j _ _ _ ((hS.block q (Array.getElem?_eq_some_iff.1 HRW.out).1).trans HRW.out)
          clear hS
          go_simp
          try with_reducible rfl
        go_simp
        refine hK _ ?_
        clear hK K
    refine wpPlan_write (by rfl) (fun K hK => ?_)
    go_simp
    refine HAG.out.mono ?_
    rintro e w6 ⟨rfl, hb6⟩
    have HB6 := Lib.hid (show Below w5.heap.size w5 w6 from ⟨hb6.os, hb6.tape, hb6.output, hb6.size, hb6.block⟩)
    clear hb6
    refine hK.out _ _ HB6.out ?_
    clear hK K
    repeat
      first
      | refine wpPlan_read (v := ?_) (by rfl) (by rfl) (fun w' hS => ?_) (fun K hK => ?_)
        rotate_left
        · have hcsS := (hS.cell (p := ⟨gS, N, none⟩) (cell_lt HCS.out)).trans HCS.out
          have hcqS := fun j => cell_of_row w' q j _ _ _ ((hS.block q (Array.getElem?_eq_some_iff.1 HRW.out).1).trans HRW.out)
          clear hS
          go_simp
          try with_reducible rfl
        go_simp
        refine hK _ ?_
        clear hK K
      | refine wpPlan_readG (v := ?_) (by rfl) (by rfl) (fun w' hS => ?_) (fun K hK => ?_)
        rotate_left
        · have hcsS := (hS.cell (p := ⟨gS, N, none⟩) (cell_lt HCS.out)).trans HCS.out
          have hcqS := fun j => cell_of_row w' q j _ _ _ ((hS.block q (Array.getElem?_eq_some_iff.1 HRW.out).1).trans HRW.out)
          clear hS
          go_simp
          try with_reducible rfl
        go_simp
        refine hK _ ?_
        clear hK K
    refine wpPlan_write (by rfl) (fun K hK => ?_)
    go_simp
    refine (lives_any w6).mono ?_
    rintro e w7 ⟨rfl, hb7⟩
    have HB7 := Lib.hid (HB6.out.trans (hb7.mono HB6.out.size))
    clear hb7
    refine hK.out _ _ HB7.out ?_
    clear hK K
    repeat
      first
      | refine wpPlan_read (v := ?_) (by rfl) (by rfl) (fun w' hS => ?_) (fun K hK => ?_)
        rotate_left
        · have hcsS := (hS.cell (p := ⟨gS, N, none⟩) (cell_lt HCS.out)).trans HCS.out
          have hcqS := fun j => cell_of_row w' q j _ _ _ ((hS.block q (Array.getElem?_eq_some_iff.1 HRW.out).1).trans HRW.out)
          clear hS
          go_simp
          try with_reducible rfl
        go_simp
        refine hK _ ?_
        clear hK K
      | refine wpPlan_readG (v := ?_) (by rfl) (by rfl) (fun w' hS => ?_) (fun K hK => ?_)
        rotate_left
        · have hcsS := (hS.cell (p := ⟨gS, N, none⟩) (cell_lt HCS.out)).trans HCS.out
          have hcqS := fun j => cell_of_row w' q j _ _ _ ((hS.block q (Array.getElem?_eq_some_iff.1 HRW.out).1).trans HRW.out)
          clear hS
          go_simp
          try with_reducible rfl
        go_simp
        refine hK _ ?_
        clear hK K
    show wpList _ _ _ _ _ _
    go_wp2_with fail
    go_ret
    exact ⟨rfl, HAT.out.bel.trans ((HB25.out.trans (HB7.out.mono HB25.out.size)).mono HAT.out.bel.size)⟩
end Go.Proofs.Ythjjbaiijelhnaa
