import Derived.Test.YthjjbaiijelhnaaM32
import Derived.Test.YthjjbaiijelhnaaM31
import Derived.Deep.CutBlock
import Derived.Deep.CutRange
set_option linter.unusedVariables false
set_option linter.unusedSimpArgs false
/- Law 30: JournalsErrors. -/
namespace Go.Proofs.Ythjjbaiijelhnaa
open Go.RowKit Go.Lib Go.Maps Go.WideMaps Go.Sort
set_option maxRecDepth 100000
theorem errors_big (k : ByteArray) (n : Nat) (z0 z1 : Int) (w : World) (hk : 400 < (k.size : Int)) :
    Calls Try.prog 5 #[.string k, .int .u16 n, .agg #[.int .i64 z0, .int .i64 z1]] w fun e w' => e = .returned (.bool true) ∧ Below w.heap.size w w' := by
  have hB : Below w.heap.size w (w.alloc (.cells #[.int .i64 z0, .int .i64 z1] 53)) := (Below.refl _ w).alloc (Nat.le_refl _) _
  have HL := Lib.hid (lives_any (w.alloc (.cells #[.int .i64 z0, .int .i64 z1] 53)))
  have HB := Lib.hid hB
  clear hB
  go_enter Try.func5, Try.ntmps5
  go_wp2_with fail
  refine HL.out.mono ?_
  rintro e w1 ⟨rfl, hb⟩
  have HB1 := Lib.hid (HB.out.trans (hb.mono HB.out.size))
  clear hb
  go_wp2
  go_ret
  exact ⟨rfl, HB1.out⟩
theorem zeros_sl (w : World) (N : Nat) (hN : N ≤ 9000) : ∃ w2, (Instr.makeSlice 22 (.int .i64 (N : Int)) (.int .i64 (N : Int))).run Try.prog w = .ok (.slice (some ⟨w.heap.size, 0, none⟩) N N) w2 ∧ (∀ M : Nat → Prop, (∀ k, M k → k < w.heap.size) → Sl w2 M (.slice (some ⟨w.heap.size, 0, none⟩) N N) (List.replicate N 0)) ∧ Below w.heap.size w w2 := by
  obtain ⟨i0, hi, hz0, hz1, hz2⟩ := info_parts Try.infoB
  obtain ⟨w2, hr, hown, hg⟩ := run_makeSlice_full (P := Try.prog) w w.heap.size 22 5 i0 (.int .u8 0) 1 Try.underlying22 hi hz0 hz1 .i64 .i64 N (by omega) (by rw [hz2]; omega) (by unfold maxLen; omega) (Nat.le_refl _)
  refine ⟨w2, hr, ?_, (Below.refl _ w).grown hg (Nat.le_refl _) (fun k e => by cases e)⟩
  have e : (madeCells (Value.int .u8 0).cells (N * 1)).toList = u8s (List.replicate N 0) := by
    rw [Nat.mul_one, show (Value.int .u8 0).cells = #[.int .u8 0] from rfl, toList_madeCells_one]
    simp [u8s]
  rw [e] at hown
  exact fun M hM => own_sl (M := M) (l := List.replicate N 0) hown hM
theorem at_calls {P : Program} {f : FuncId} {xs : Array Value} {W : World} {Q : Ending → World → Prop} (F : World → Prop) (hF : F W) (h : ∀ X, F X → Calls P f xs X Q) : Calls P f xs W Q := h W hF
theorem at_abandon_shut {w0 w : World} {p : Nat} {s : J.St} (h : At w0 p s w) (ho : s.opn = false) : Calls Try.prog 26 #[.pointer (some ⟨p, 0, none⟩)] w fun e w' => e = .returned (.int .i64 6) ∧ w = w' := by
  obtain ⟨M, h1, _, _⟩ := h
  exact abandon_shut p M s w h1 ho
theorem at_compact_open {w0 w : World} {p : Nat} {s : J.St} (h : At w0 p s w) (ho : s.opn = true) : Calls Try.prog 18 #[.pointer (some ⟨p, 0, none⟩)] w fun e w' => e = .returned (.int .i64 6) ∧ w = w' := by
  obtain ⟨M, h1, _, _⟩ := h
  exact compactS_open p M s w h1 ho
theorem at_delete_any {w0 w : World} {p : Nat} {s s' : J.St} (h : At w0 p s w) (k : ByteArray) (hk : k.size ≤ 1000) (r : Int) (hr : J.delete s k.data.toList = (s', r)) :
    Calls Try.prog 14 #[.pointer (some ⟨p, 0, none⟩), .string k] w fun e w' => e = .returned (.int .i64 r) ∧ At w0 p s' w' := by
  obtain ⟨M, h1, h2, h3⟩ := h
  have hp := delete_any p M s k w h1 hk
  rw [hr] at hp
  refine hp.mono ?_
  rintro e w' ⟨rfl, M', hst, hs⟩
  exact ⟨rfl, At.step h2 h3 hst hs⟩
/-- A store of the law's own, and a slice of the law's beside it. -/
def At2 (w0 : World) (p : Nat) (s : J.St) (v : Value) (l : J.B) (w : World) : Prop := ∃ M, StoreR w p M s ∧ (∀ k, M k → w0.heap.size ≤ k ∧ k < w.heap.size) ∧ Below w0.heap.size w0 w ∧ Sl w M v l
theorem At2.at {w0 w : World} {p : Nat} {s : J.St} {v : Value} {l : J.B} (h : At2 w0 p s v l w) : At w0 p s w := h.elim fun M h => ⟨M, h.1, h.2.1, h.2.2.1⟩
theorem At2.sl {w0 w : World} {p : Nat} {s : J.St} {v : Value} {l : J.B} (h : At2 w0 p s v l w) : Sl w NoM v l := h.elim fun _ h => h.2.2.2.weak (fun _ h => h.elim)
theorem At2.step {w0 w w' : World} {p : Nat} {s' : J.St} {v : Value} {l : J.B} {M M' : Nat → Prop} (h1 : ∀ k, M k → w0.heap.size ≤ k ∧ k < w.heap.size) (h2 : Below w0.heap.size w0 w) (hsl : Sl w M v l) (hst : StoreR w' p M' s') (hs : Step M M' w w') : At2 w0 p s' v l w' := by
  refine ⟨fun k => M' k ∧ k < w'.heap.size, hst.cap, fun k hk => ⟨?_, hk.2⟩, below_tr h2 (hs.below h2.size (fun k hk => (h1 k hk).1)), (hsl.step hs).weak (fun k h => h.1)⟩
  by_cases hw : k < w.heap.size
  · exact (h1 k (hs.sub k hw hk.1)).1
  · have := h2.size; omega
theorem at2_begin {w0 w : World} {p : Nat} {s : J.St} {v : Value} {l : J.B} (h : At2 w0 p s v l w) (ho : s.opn = false) : Calls Try.prog 12 #[.pointer (some ⟨p, 0, none⟩)] w fun e w' => e = .returned (.int .i64 0) ∧ At2 w0 p (J.begin_ s) v l w' := by
  obtain ⟨M, h1, h2, h3, h4⟩ := h
  refine (begin_any p M s w h1 ho).mono ?_
  rintro e w' ⟨rfl, M', hst, hs⟩
  exact ⟨rfl, At2.step h2 h3 h4 hst hs⟩
theorem at2_delete {w0 w : World} {p : Nat} {s s' : J.St} {v : Value} {l : J.B} (h : At2 w0 p s v l w) (k : ByteArray) (hk : k.size ≤ 1000) (r : Int) (hr : J.delete s k.data.toList = (s', r)) :
    Calls Try.prog 14 #[.pointer (some ⟨p, 0, none⟩), .string k] w fun e w' => e = .returned (.int .i64 r) ∧ At2 w0 p s' v l w' := by
  obtain ⟨M, h1, h2, h3, h4⟩ := h
  have hp := delete_any p M s k w h1 hk
  rw [hr] at hp
  refine hp.mono ?_
  rintro e w' ⟨rfl, M', hst, hs⟩
  exact ⟨rfl, At2.step h2 h3 h4 hst hs⟩
theorem err_cut {w0 w : World} {p R : Nat} {s : J.St} (h : At w0 p s w) (g : J.ErrG s R) (z0 z1 : Int) :
    Calls Try.prog 25 #[.pointer (some ⟨p, 0, none⟩), .int .i64 z0, .int .i64 z1] w fun e w' => ∃ (Ca Cb C Cd : Option Addr) (na ca nb cb n c nd cd : Nat) (f : Int), e = .returned (.tuple #[imgV (.slice Ca na ca) (.slice Cb nb cb) (.slice C n c) (.slice Cd nd cd), .int .i64 f]) ∧ (J.errOk z0 z1 R ∧ f = 0 ∨ ¬ J.errOk z0 z1 R ∧ f = 13 ∧ n = 0) ∧ At w0 p s w' := by
  by_cases ho : J.errOk z0 z1 R
  · obtain ⟨wr, e1, e2⟩ := g.wr
    have hl : s.writes.length = 1 := by rw [e1]; rfl
    obtain ⟨k, t, hk, ht, rfl, rfl⟩ : ∃ k t : Nat, k ≤ s.writes.length ∧ (t = 0 ∨ ∃ wr, s.writes[k]? = some wr ∧ t ≤ wr.bs.length) ∧ z0 = (k : Int) ∧ z1 = (t : Int) := by
      rcases ho with ⟨rfl, rfl⟩ | ⟨rfl, h1, h2⟩
      · exact ⟨1, 0, by omega, .inl rfl, rfl, rfl⟩
      · obtain ⟨t, rfl⟩ := Int.eq_ofNat_of_zero_le h1
        exact ⟨0, t, by omega, .inr ⟨wr, by rw [e1]; rfl, by omega⟩, rfl, rfl⟩
    refine (at_cut h g.wok k t hk ht).mono ?_
    rintro e w' ⟨v, rfl, hi, hA⟩
    obtain ⟨y0, y1, y2, y3, rfl, q0, q1, q2, q3⟩ := hi
    obtain ⟨A0, rfl⟩ := q0.slice_
    obtain ⟨A1, rfl⟩ := q1.slice_
    obtain ⟨A2, rfl⟩ := q2.slice_
    obtain ⟨A3, rfl⟩ := q3.slice_
    exact ⟨A0, A1, A2, A3, _, _, _, _, _, _, _, _, 0, rfl, .inl ⟨ho, rfl⟩, hA⟩
  · refine (at_cut_none h z0 z1 (J.err_no g z0 z1 ho)).mono ?_
    rintro e w' ⟨rfl, hA⟩
    exact ⟨none, none, none, none, 0, 0, 0, 0, 0, 0, 0, 0, 13, rfl, .inr ⟨ho, rfl, rfl⟩, hA⟩
theorem err_image {w0 w : World} {p R : Nat} {s : J.St} (h : At w0 p s w) (g : J.ErrG s R) : Calls Try.prog 17 #[.pointer (some ⟨p, 0, none⟩)] w fun e w' => ∃ (Ca Cb C Cd : Option Addr) (na ca nb cb c nd cd : Nat), e = .returned (imgW (.slice Ca na ca) (.slice Cb nb cb) (.slice C R c) (.slice Cd nd cd)) ∧ Below w.heap.size w w' := by
  obtain ⟨M, h1, h2, h3⟩ := h
  refine (image_any p M s w h1).mono ?_
  rintro e w' ⟨v, rfl, hi, hb⟩
  obtain ⟨y0, y1, y2, y3, rfl, q0, q1, q2, q3⟩ := hi
  obtain ⟨A0, rfl⟩ := q0.slice_
  obtain ⟨A1, rfl⟩ := q1.slice_
  obtain ⟨A2, rfl⟩ := q2.slice_
  obtain ⟨A3, rfl⟩ := q3.slice_
  have e := g.a0
  exact ⟨A0, A1, A2, A3, _, _, _, _, _, _, _, by rw [e], hb⟩
/-- The worlds behind the cut: the store, the pair z, the image. -/
structure ErrX (wz : World) (p : Nat) (T : J.St) (zb : Nat) (z0 z1 : Int) (ib : Nat) (I : Array Value) (X : World) : Prop where
  st : At wz p T X
  z : X.heap[zb]? = some (.cells #[.int .i64 z0, .int .i64 z1] 53 (0, 0))
  i : X.heap[ib]? = some (.cells I 35 (0, 0))
theorem ErrX.below {wz : World} {p : Nat} {T : J.St} {zb : Nat} {z0 z1 : Int} {ib : Nat} {I : Array Value} {X Y : World} (h : ErrX wz p T zb z0 z1 ib I X) (hb : Below X.heap.size X Y) : ErrX wz p T zb z0 z1 ib I Y :=
  ⟨h.st.below hb, (hb.block _ (Array.getElem?_eq_some_iff.mp h.z).1).trans h.z, (hb.block _ (Array.getElem?_eq_some_iff.mp h.i).1).trans h.i⟩
set_option maxHeartbeats 8000000 in
theorem errors_small (kl : J.B) (n : Nat) (z0 z1 : Int) (w : World) (hk : (kl.length : Int) ≤ 400) (hn : n < 65536) :
    Calls Try.prog 5 #[.string ⟨kl.toArray⟩, .int .u16 n, .agg #[.int .i64 z0, .int .i64 z1]] w fun e w' => e = .returned (.bool true) ∧ Below w.heap.size w w' := by
  have HZ := Lib.hid (heap_alloc_new w (.cells #[.int .i64 z0, .int .i64 z1] 53))
  have HB := Lib.hid ((Below.refl _ w).alloc (Nat.le_refl _) (.cells #[.int .i64 z0, .int .i64 z1] 53))
  have hwn : wrap64 (n : Int) = (n : Int) := IntWalk.wrap64_in _ (by omega)
  have hm : (n : Int).tmod 9000 = ((n % 9000 : Nat) : Int) := rfl
  have hlt : n % 9000 < 9000 := Nat.mod_lt _ (by decide)
  generalize n % 9000 = N at hm hlt
  have hks := enc_size kl
  generalize hkk : (⟨kl.toArray⟩ : ByteArray) = k at hks
  have HKK := Lib.hid hkk
  have HN := Lib.hid hn
  clear hn hkk
  have hd4 : decide ((400 : Int) < (kl.length : Int)) = false := by simp; omega
  have hks2 : ((k.size : Nat) : Int) ≤ 400 := by rw [hks]; exact hk
  go_enter Try.func5, Try.ntmps5
  go_wp2_with fail
  generalize hwz : w.alloc (.cells #[.int .i64 z0, .int .i64 z1] 53) = wz at HZ HB
  clear hwz
  refine (at_new wz _ (Below.refl _ _)).mono ?_
  rintro e w1 ⟨p, rfl, h1⟩
  have H1 := Lib.hid h1
  obtain ⟨w2, hmake, hsl, hb2⟩ := zeros_sl w1 N (by omega)
  have h22 : At2 wz p J.new (.slice (some ⟨w1.heap.size, 0, none⟩) N N) (List.replicate N 0) w2 := by
    obtain ⟨M, g1, g2, g3⟩ := h1
    exact ⟨M, g1.below hb2, fun k hk => ⟨(g2 k hk).1, Nat.lt_of_lt_of_le (g2 k hk).2 hb2.size⟩, g3.trans (hb2.mono g3.size), hsl M (fun k hk => (g2 k hk).2)⟩
  have H2 := Lib.hid h22
  clear h22
  clear h1 hsl hb2
  go_upto_block 0 with fail
  clear hwn hm
  go_cut [9] from 36 to 47 (fun v wx => v = .int .i64 (J.errR kl N) ∧ wx = w2)
  case first =>
    have htl : k.toList = kl := by rw [← HKK.out, ByteArray.toList_eq]
    by_cases h0 : kl = []
    · have hr : J.errR kl N = 1 := by unfold J.errR; rw [if_pos (.inl h0)]
      have HR := Lib.hid hr
      clear hr
      have h1 : k.toList = [] := htl.trans h0
      have h2 : k.toList.isEmpty = true := by rw [h1]; rfl
      clear htl h0
      go_wp2_with fail
      go_meet
      case rel => exact ⟨by rw [HR.out], rfl⟩
    · have h1 : ¬ k.toList = [] := by rw [htl]; exact h0
      have h2 : k.toList.isEmpty = false := by rw [htl]; cases kl <;> simp_all
      by_cases h3 : 300 < kl.length
      · have hr : J.errR kl N = 1 := by unfold J.errR; rw [if_pos (.inr h3)]
        have HR := Lib.hid hr
        clear hr
        have h4 : (300 : Int) < (k.size : Int) := by omega
        clear htl h0
        go_wp2_with fail
        go_meet
        case rel => exact ⟨by rw [HR.out], rfl⟩
      · have h4 : ¬ (300 : Int) < (k.size : Int) := by omega
        by_cases h8 : 8192 < N
        · have hr : J.errR kl N = 3 := by unfold J.errR; rw [if_neg (fun e => e.elim h0 h3), if_pos h8]
          have HR := Lib.hid hr
          clear hr
          have h9 : (8192 : Int) < (N : Int) := by omega
          clear htl h0
          go_wp2_with fail
          go_meet
          case rel => exact ⟨by rw [HR.out], rfl⟩
        · have hr : J.errR kl N = 0 := by unfold J.errR; rw [if_neg (fun e => e.elim h0 h3), if_neg h8]
          have HR := Lib.hid hr
          clear hr
          have h9 : ¬ (8192 : Int) < (N : Int) := by omega
          clear htl h0
          go_wp2_with fail
          go_meet
          case rel => exact ⟨by rw [HR.out], rfl⟩
  case rest =>
    obtain ⟨rfl, rfl⟩ := hcut
    clear hmake
    have HD1 := Lib.hid (at2_delete (s' := J.new) H2.out k (by omega) 6 rfl)
    go_wp2_with fail
    refine (at_put_shut H2.out.at rfl k _ _ _).mono ?_
    rintro e Y ⟨rfl, hY⟩
    obtain rfl : wc = Y := hY
    go_wp2_with fail
    refine HD1.out.mono ?_
    rintro e w3 ⟨rfl, h3⟩
    have H3 := Lib.hid h3
    clear h3
    go_wp2_with fail
    refine (at_abandon_shut H3.out.at rfl).mono ?_
    rintro e Y ⟨rfl, hY⟩
    obtain rfl : w3 = Y := hY
    go_wp2_with fail
    refine (at2_begin H3.out rfl).mono ?_
    rintro e w4 ⟨rfl, h4⟩
    have H4 := Lib.hid h4
    clear h4
    go_wp2_with fail
    have hp := err_put H4.out.at kl N _ N H4.out.sl
    rw [HKK.out] at hp
    refine hp.mono ?_
    clear hp
    rintro e w5 ⟨rfl, h5⟩
    have HF := Lib.hid (J.errF kl N)
    generalize J.errS kl N = S at h5 HF
    have H5 := Lib.hid h5
    clear h5
    go_wp2_with fail
    refine (at_delete_any (s' := S) H5.out _ (by rw [ByteArray.size_append]; exact Nat.le_trans (Nat.add_le_add (show k.size ≤ 400 by omega) (show (⟨#[120]⟩ : ByteArray).size ≤ 1 by decide)) (by decide)) 7 ?_).mono ?_
    · have e : (k ++ ⟨#[120]⟩ : ByteArray).data.toList = kl ++ [120] := by rw [← HKK.out]; simp
      rw [e]
      unfold J.delete
      rw [if_neg (by rw [HF.out.opn]; simp), if_pos HF.out.x]
    rintro e w6 ⟨rfl, h6⟩
    have H6 := Lib.hid h6
    clear h6
    go_wp2_with fail
    refine (at_begin_open H6.out HF.out.opn).mono ?_
    rintro e Y ⟨rfl, hY⟩
    obtain rfl : w6 = Y := hY
    go_wp2_with fail
    refine (at_compact_open H6.out HF.out.opn).mono ?_
    rintro e Y ⟨rfl, hY⟩
    obtain rfl : w6 = Y := hY
    go_wp2_with fail
    refine (at_commit H6.out HF.out.opn HF.out.sp (J.err_csmall HF.out) (by rw [HF.out.com]; decide) (by rw [HF.out.ar]; decide) (J.err_fit HF.out) 1 0 (J.err_commit HF.out)).mono ?_
    rintro e w7 ⟨rfl, h7⟩
    have HG := Lib.hid (J.errG HF.out)
    generalize J.committed S = T at h7 HG
    generalize (J.record 0 1 S.changes).length = R at HG
    clear HF H6 H5 H2 H3 H4 HD1
    have H7 := Lib.hid h7
    have hcz := fun j => cell_of_row w7 w.heap.size j _ _ _ ((h7.bel.block _ (Array.getElem?_eq_some_iff.mp HZ.out).1).trans HZ.out)
    clear h7
    go_wp2_with fail
    refine (err_cut H7.out HG.out z0 z1).mono ?_
    rintro e w8 ⟨Ca, Cb, C0, Cd, na, ca, nb, cb, n0, c0, nd, cd, f0, rfl, hok, h8⟩
    clear hcz
    have H8 := Lib.hid h8
    have HOK := Lib.hid hok
    have HZ8 := Lib.hid ((h8.bel.block _ (Array.getElem?_eq_some_iff.mp HZ.out).1).trans HZ.out)
    clear h8 hok
    go_upto_region 14 with fail
    have hbI := (Below.refl _ w8).alloc (Nat.le_refl _) (.cells #[.slice Ca na ca, .slice Cb nb cb, .slice C0 n0 c0, .slice Cd nd cd] 35)
    refine at_world (fun X => ErrX wz p T w.heap.size z0 z1 w8.heap.size #[.slice Ca na ca, .slice Cb nb cb, .slice C0 n0 c0, .slice Cd nd cd] X) ⟨H8.out.below hbI, (hbI.block _ (Array.getElem?_eq_some_iff.mp HZ8.out).1).trans HZ8.out, heap_alloc_new _ _⟩ ?_
    intro w9 hx
    have HX := Lib.hid hx
    clear hx hbI H8 HZ8
    generalize w8.heap.size = ib at HX
    go_cut [14] from 108 to 135 (fun v wx => ∃ b : Bool, v = .bool b ∧ (b = true ↔ J.errOk z0 z1 R) ∧ ErrX wz p T w.heap.size z0 z1 ib #[.slice Ca na ca, .slice Cb nb cb, .slice C0 n0 c0, .slice Cd nd cd] wx)
    case first =>
      have hcs : (z0 = 1 ∧ z1 = 0) ∨ (z0 = 1 ∧ z1 ≠ 0) ∨ (z0 = 0 ∧ 0 ≤ z1) ∨ (z0 = 0 ∧ z1 < 0) ∨ (z0 ≠ 1 ∧ z0 ≠ 0) := by omega
      clear HOK
      have HSS := Lib.hid (Nat.le_refl w9.heap.size)
      rcases hcs with ⟨rfl, rfl⟩ | ⟨rfl, q1⟩ | ⟨rfl, q1⟩ | ⟨rfl, q1⟩ | ⟨q0, q1⟩
      · refine wp_region_plan 28 [(0, false), (1, false), (2, false), (3, false), (4, false), (5, false), (6, false), (7, false), (8, false), (9, false), (10, false), (11, false), (12, false), (13, false), (14, false), (15, false), (16, false), (17, false), (18, false), (19, false), (20, false), (21, false), (22, false), (23, false), (24, false), (25, false), (26, false), (27, false)] (fun w' => w'.heap[w.heap.size]? = some (.cells #[.int .i64 1, .int .i64 0] 53 (0, 0))) (by kernel_rfl) (by kernel_rfl) (fun c a d v w h => by cases d <;> exact h) HX.out.z ?_
        repeat
          first
          | refine wpPlan_read (v := ?_) (by rfl) (by rfl) (fun w' hS => ?_) (fun K hK => ?_)
            rotate_left
            · have hcp := fun j => cell_of_row w' w.heap.size j _ _ _ hS
              clear hS
              go_simp
              try with_reducible rfl
            go_simp
            refine hK _ ?_
            clear hK K
          | refine wpPlan_readG (v := ?_) (by rfl) (by rfl) (fun w' hS => ?_) (fun K hK => ?_)
            rotate_left
            · have hcp := fun j => cell_of_row w' w.heap.size j _ _ _ hS
              clear hS
              go_simp
              try with_reducible rfl
            go_simp
            refine hK _ ?_
            clear hK K
          | refine wpPlan_skip (by rfl) (by rfl) (fun K hK => ?_)
            go_simp
            refine hK _ ?_
            clear hK K
        show wpList _ _ _ _ _ _
        go_wp2_with fail
        go_meet
        case rel => exact ⟨_, rfl, ⟨fun _ => .inl ⟨rfl, rfl⟩, fun _ => rfl⟩, HX.out.below (Below.refl _ _).drew⟩
      · have hq := Lib.hid q1
        have q4 : (z1 == 0) = false := by simp; exact q1
        clear q1
        refine wp_region_plan 28 [(0, false), (1, false), (2, false), (3, false), (4, false), (5, false), (6, false), (7, false), (8, false), (9, false), (10, false), (11, false), (12, false), (13, false), (14, false), (15, false), (16, false), (17, false), (18, false), (19, false), (20, false), (21, false), (22, false), (23, false), (24, false), (25, false), (26, false), (27, false)] (fun w' => w'.heap[w.heap.size]? = some (.cells #[.int .i64 1, .int .i64 z1] 53 (0, 0))) (by kernel_rfl) (by kernel_rfl) (fun c a d v w h => by cases d <;> exact h) HX.out.z ?_
        repeat
          first
          | refine wpPlan_read (v := ?_) (by rfl) (by rfl) (fun w' hS => ?_) (fun K hK => ?_)
            rotate_left
            · have hcp := fun j => cell_of_row w' w.heap.size j _ _ _ hS
              clear hS
              go_simp
              try with_reducible rfl
            go_simp
            refine hK _ ?_
            clear hK K
          | refine wpPlan_readG (v := ?_) (by rfl) (by rfl) (fun w' hS => ?_) (fun K hK => ?_)
            rotate_left
            · have hcp := fun j => cell_of_row w' w.heap.size j _ _ _ hS
              clear hS
              go_simp
              try with_reducible rfl
            go_simp
            refine hK _ ?_
            clear hK K
          | refine wpPlan_skip (by rfl) (by rfl) (fun K hK => ?_)
            go_simp
            refine hK _ ?_
            clear hK K
        show wpList _ _ _ _ _ _
        go_wp2_with fail
        go_meet
        case rel => exact ⟨_, rfl, ⟨fun e => by simp at e, fun e => (Or.elim e (fun e => absurd e.2 hq.out) (fun e => absurd e.1 (by decide)))⟩, HX.out.below (Below.refl _ _).drew⟩
      · have hq := Lib.hid q1
        have hfa := run_field_areas
        have hia := run_index2a
        refine wp_region_plan 28 [(0, false), (1, false), (2, false), (3, false), (4, false), (5, false), (6, false), (7, false), (8, false), (9, false), (10, false), (11, false), (12, false), (13, false), (14, false), (15, false), (16, false), (17, false), (18, false), (19, false), (20, false), (21, true), (22, false), (23, false), (24, false), (25, false), (26, false), (27, false)] (fun w' => w'.heap[w.heap.size]? = some (.cells #[.int .i64 0, .int .i64 z1] 53 (0, 0))) (by kernel_rfl) (by kernel_rfl) (fun c a d v w h => by cases d <;> exact h) HX.out.z ?_
        repeat
          first
          | refine wpPlan_read (v := ?_) (by rfl) (by rfl) (fun w' hS => ?_) (fun K hK => ?_)
            rotate_left
            · have hcp := fun j => cell_of_row w' w.heap.size j _ _ _ hS
              clear hS
              go_simp
              try with_reducible rfl
            go_simp
            refine hK _ ?_
            clear hK K
          | refine wpPlan_readG (v := ?_) (by rfl) (by rfl) (fun w' hS => ?_) (fun K hK => ?_)
            rotate_left
            · have hcp := fun j => cell_of_row w' w.heap.size j _ _ _ hS
              clear hS
              go_simp
              try with_reducible rfl
            go_simp
            refine hK _ ?_
            clear hK K
          | refine wpPlan_skip (by rfl) (by rfl) (fun K hK => ?_)
            go_simp
            refine hK _ ?_
            clear hK K
        refine wpPlan_write (by rfl) (fun K hK => ?_)
        go_simp
        refine (err_image (HX.out.below (Below.refl _ _).drew).st HG.out).mono ?_
        rintro e w10 ⟨A0, A1, A2, A3, m0, c10, m1, c11, c12, m3, c13, rfl, hb10⟩
        have HX1 := Lib.hid ((HX.out.below (Below.refl _ _).drew).below hb10)
        clear hb10 HX
        refine hK.out _ _ HX1.out.z ?_
        clear hK K
        repeat
          first
          | refine wpPlan_read (v := ?_) (by rfl) (by rfl) (fun w' hS => ?_) (fun K hK => ?_)
            rotate_left
            · have hcp := fun j => cell_of_row w' w.heap.size j _ _ _ hS
              clear hS
              go_simp
              try with_reducible rfl
            go_simp
            refine hK _ ?_
            clear hK K
          | refine wpPlan_readG (v := ?_) (by rfl) (by rfl) (fun w' hS => ?_) (fun K hK => ?_)
            rotate_left
            · have hcp := fun j => cell_of_row w' w.heap.size j _ _ _ hS
              clear hS
              go_simp
              try with_reducible rfl
            go_simp
            refine hK _ ?_
            clear hK K
          | refine wpPlan_skip (by rfl) (by rfl) (fun K hK => ?_)
            go_simp
            refine hK _ ?_
            clear hK K
        show wpList _ _ _ _ _ _
        go_wp2_with fail
        go_meet
        case rel => exact ⟨_, rfl, ⟨fun e => .inr ⟨rfl, hq.out, of_decide_eq_true e⟩, fun e => decide_eq_true (e.elim (fun e => absurd e.1 (by decide)) fun e => e.2.2)⟩, HX1.out⟩
      · have hq := Lib.hid q1
        have q2 : ¬ (0 : Int) ≤ z1 := by omega
        refine wp_region_plan 28 [(0, false), (1, false), (2, false), (3, false), (4, false), (5, false), (6, false), (7, false), (8, false), (9, false), (10, false), (11, false), (12, false), (13, false), (14, false), (15, false), (16, false), (17, false), (18, false), (19, false), (20, false), (21, false), (22, false), (23, false), (24, false), (25, false), (26, false), (27, false)] (fun w' => w'.heap[w.heap.size]? = some (.cells #[.int .i64 0, .int .i64 z1] 53 (0, 0))) (by kernel_rfl) (by kernel_rfl) (fun c a d v w h => by cases d <;> exact h) HX.out.z ?_
        repeat
          first
          | refine wpPlan_read (v := ?_) (by rfl) (by rfl) (fun w' hS => ?_) (fun K hK => ?_)
            rotate_left
            · have hcp := fun j => cell_of_row w' w.heap.size j _ _ _ hS
              clear hS
              go_simp
              try with_reducible rfl
            go_simp
            refine hK _ ?_
            clear hK K
          | refine wpPlan_readG (v := ?_) (by rfl) (by rfl) (fun w' hS => ?_) (fun K hK => ?_)
            rotate_left
            · have hcp := fun j => cell_of_row w' w.heap.size j _ _ _ hS
              clear hS
              go_simp
              try with_reducible rfl
            go_simp
            refine hK _ ?_
            clear hK K
          | refine wpPlan_skip (by rfl) (by rfl) (fun K hK => ?_)
            go_simp
            refine hK _ ?_
            clear hK K
        show wpList _ _ _ _ _ _
        go_wp2_with fail
        go_meet
        case rel => exact ⟨_, rfl, ⟨fun e => by simp at e, fun e => e.elim (fun e => absurd e.1 (by decide)) fun e => absurd e.2.1 (by have := hq.out; omega)⟩, HX.out.below (Below.refl _ _).drew⟩
      · have hq := Lib.hid (And.intro q0 q1)
        have q2 : (z0 == 1) = false := by simp; exact q0
        have q3 : (z0 == 0) = false := by simp; exact q1
        clear q0 q1
        refine wp_region_plan 28 [(0, false), (1, false), (2, false), (3, false), (4, false), (5, false), (6, false), (7, false), (8, false), (9, false), (10, false), (11, false), (12, false), (13, false), (14, false), (15, false), (16, false), (17, false), (18, false), (19, false), (20, false), (21, false), (22, false), (23, false), (24, false), (25, false), (26, false), (27, false)] (fun w' => w'.heap[w.heap.size]? = some (.cells #[.int .i64 z0, .int .i64 z1] 53 (0, 0))) (by kernel_rfl) (by kernel_rfl) (fun c a d v w h => by cases d <;> exact h) HX.out.z ?_
        repeat
          first
          | refine wpPlan_read (v := ?_) (by rfl) (by rfl) (fun w' hS => ?_) (fun K hK => ?_)
            rotate_left
            · have hcp := fun j => cell_of_row w' w.heap.size j _ _ _ hS
              clear hS
              go_simp
              try with_reducible rfl
            go_simp
            refine hK _ ?_
            clear hK K
          | refine wpPlan_readG (v := ?_) (by rfl) (by rfl) (fun w' hS => ?_) (fun K hK => ?_)
            rotate_left
            · have hcp := fun j => cell_of_row w' w.heap.size j _ _ _ hS
              clear hS
              go_simp
              try with_reducible rfl
            go_simp
            refine hK _ ?_
            clear hK K
          | refine wpPlan_skip (by rfl) (by rfl) (fun K hK => ?_)
            go_simp
            refine hK _ ?_
            clear hK K
        show wpList _ _ _ _ _ _
        go_wp2_with fail
        go_meet
        case rel => exact ⟨_, rfl, ⟨fun e => by simp at e, fun e => e.elim (fun e => absurd e.1 hq.out.1) fun e => absurd e.1 hq.out.2⟩, HX.out.below (Below.refl _ _).drew⟩
    case rest =>
      obtain ⟨b, rfl, hb, hX⟩ := hcut
      have HX2 := Lib.hid hX
      have hci := fun j => cell_of_row wc ib j _ _ _ hX.i
      clear hX HX
      have hcases : (b = true ∧ f0 = 0) ∨ (b = false ∧ f0 = 13 ∧ n0 = 0) := by
        rcases HOK.out with ⟨q, e⟩ | ⟨q, e, e2⟩
        · exact .inl ⟨hb.2 q, e⟩
        · exact .inr ⟨Bool.eq_false_iff.2 (fun h => q (hb.1 h)), e, e2⟩
      clear hb HOK
      rcases hcases with ⟨rfl, rfl⟩ | ⟨rfl, rfl, rfl⟩
      · have HBX := Lib.hid (HB.out.trans (HX2.out.st.bel.mono HB.out.size))
        clear hci HX2
        go_wp2_with fail
        refine at_calls (fun X => NR (some ⟨wc.heap.size, 0, none⟩) X ∧ Below w.heap.size w X) ?_ ?_
        · exact ⟨nr_zero _ _ ((cell_of_row _ _ 0 _ _ _ (heap_alloc_new _ _)).trans rfl), HBX.out.trans (((Below.refl _ _).alloc (Nat.le_refl _) _).mono HBX.out.size)⟩
        rintro X ⟨hn, hw⟩
        have HN := Lib.hid hn
        have HW := Lib.hid hw
        clear hn hw HBX
        generalize wc.heap.size = zb at HN
        refine (nr_commit (nr_nil X)).mono ?_
        rintro e Y ⟨rfl, hY⟩
        obtain rfl : X = Y := hY
        go_wp2_with fail
        refine (nr_commit HN.out).mono ?_
        rintro e Y ⟨rfl, hY⟩
        obtain rfl : X = Y := hY
        go_wp2_with fail
        refine (nr_cut (nr_nil X) 0 0).mono ?_
        rintro e X1 ⟨rfl, hb1⟩
        have HN1 := Lib.hid (HN.out.below hb1)
        have HW1 := Lib.hid (HW.out.trans (hb1.mono HW.out.size))
        clear hb1 HN HW
        go_wp2_with fail
        refine at_calls (fun X => NR (some ⟨zb, 0, none⟩) X ∧ Below w.heap.size w X) ?_ ?_
        · exact ⟨HN1.out.below ((Below.refl _ _).alloc (Nat.le_refl _) _), HW1.out.trans (((Below.refl _ _).alloc (Nat.le_refl _) _).mono HW1.out.size)⟩
        rintro X2 ⟨hn, hw⟩
        have HN := Lib.hid hn
        have HW := Lib.hid hw
        clear hn hw HN1 HW1
        refine (nr_get HN.out k).mono ?_
        rintro e Y ⟨rfl, hY⟩
        obtain rfl : X2 = Y := hY
        go_wp2_with fail
        refine (nr_after (nr_nil X2) _ _ _).mono ?_
        rintro e X3 ⟨rfl, hb3⟩
        have HN3 := Lib.hid (HN.out.below hb3)
        have HW3 := Lib.hid (HW.out.trans (hb3.mono HW.out.size))
        clear hb3 HN HW
        go_wp2_with fail
        refine (nr_begin (nr_nil X3)).mono ?_
        rintro e Y ⟨rfl, hY⟩
        obtain rfl : X3 = Y := hY
        go_wp2_with fail
        refine (nr_put HN3.out k none 0 0).mono ?_
        rintro e Y ⟨rfl, hY⟩
        obtain rfl : X3 = Y := hY
        go_wp2_with fail
        refine (nr_delete (nr_nil X3) k).mono ?_
        rintro e Y ⟨rfl, hY⟩
        obtain rfl : X3 = Y := hY
        go_wp2_with fail
        refine (nr_abandon HN3.out).mono ?_
        rintro e Y ⟨rfl, hY⟩
        obtain rfl : X3 = Y := hY
        go_wp2_with fail
        refine (nr_compact (nr_nil X3)).mono ?_
        rintro e Y ⟨rfl, hY⟩
        obtain rfl : X3 = Y := hY
        go_wp2_with fail
        refine (nr_keys (nr_nil X3) _).mono ?_
        rintro e Y ⟨rfl, hY⟩
        obtain rfl : X3 = Y := hY
        go_wp2_with fail
        refine (nr_keys HN3.out _).mono ?_
        rintro e Y ⟨rfl, hY⟩
        obtain rfl : X3 = Y := hY
        go_wp2_with fail
        refine (nr_commits (nr_nil X3)).mono ?_
        rintro e Y ⟨rfl, hY⟩
        obtain rfl : X3 = Y := hY
        go_wp2_with fail
        refine (nr_commits HN3.out).mono ?_
        rintro e Y ⟨rfl, hY⟩
        obtain rfl : X3 = Y := hY
        go_wp2_with fail
        refine (nr_writes (nr_nil X3)).mono ?_
        rintro e Y ⟨rfl, hY⟩
        obtain rfl : X3 = Y := hY
        go_wp2_with fail
        refine (nr_writes HN3.out).mono ?_
        rintro e Y ⟨rfl, hY⟩
        obtain rfl : X3 = Y := hY
        go_wp2_with fail
        have hfa := run_field_areas
        have hia := run_index2a
        refine (nr_image HN3.out).mono ?_
        rintro e X4 ⟨rfl, hb4⟩
        have HW4 := Lib.hid (HW3.out.trans (hb4.mono HW3.out.size))
        clear hb4 HN3 HW3
        go_wp2_with fail
        refine (lives_any X4).mono ?_
        rintro e X5 ⟨rfl, hb5⟩
        have HW5 := Lib.hid (HW4.out.trans (hb5.mono HW4.out.size))
        clear hb5 HW4 hfa hia
        go_wp2_with fail
        go_ret
        exact ⟨rfl, HW5.out⟩
      · have HBX := Lib.hid (HB.out.trans (HX2.out.st.bel.mono HB.out.size))
        go_wp2_with fail
        clear hci HX2
        refine at_calls (fun X => NR (some ⟨wc.heap.size, 0, none⟩) X ∧ Below w.heap.size w X) ?_ ?_
        · exact ⟨nr_zero _ _ ((cell_of_row _ _ 0 _ _ _ (heap_alloc_new _ _)).trans rfl), HBX.out.trans (((Below.refl _ _).alloc (Nat.le_refl _) _).mono HBX.out.size)⟩
        rintro X ⟨hn, hw⟩
        have HN := Lib.hid hn
        have HW := Lib.hid hw
        clear hn hw HBX
        generalize wc.heap.size = zb at HN
        refine (nr_commit (nr_nil X)).mono ?_
        rintro e Y ⟨rfl, hY⟩
        obtain rfl : X = Y := hY
        go_wp2_with fail
        refine (nr_commit HN.out).mono ?_
        rintro e Y ⟨rfl, hY⟩
        obtain rfl : X = Y := hY
        go_wp2_with fail
        refine (nr_cut (nr_nil X) 0 0).mono ?_
        rintro e X1 ⟨rfl, hb1⟩
        have HN1 := Lib.hid (HN.out.below hb1)
        have HW1 := Lib.hid (HW.out.trans (hb1.mono HW.out.size))
        clear hb1 HN HW
        go_wp2_with fail
        refine at_calls (fun X => NR (some ⟨zb, 0, none⟩) X ∧ Below w.heap.size w X) ?_ ?_
        · exact ⟨HN1.out.below ((Below.refl _ _).alloc (Nat.le_refl _) _), HW1.out.trans (((Below.refl _ _).alloc (Nat.le_refl _) _).mono HW1.out.size)⟩
        rintro X2 ⟨hn, hw⟩
        have HN := Lib.hid hn
        have HW := Lib.hid hw
        clear hn hw HN1 HW1
        refine (nr_get HN.out k).mono ?_
        rintro e Y ⟨rfl, hY⟩
        obtain rfl : X2 = Y := hY
        go_wp2_with fail
        refine (nr_after (nr_nil X2) _ _ _).mono ?_
        rintro e X3 ⟨rfl, hb3⟩
        have HN3 := Lib.hid (HN.out.below hb3)
        have HW3 := Lib.hid (HW.out.trans (hb3.mono HW.out.size))
        clear hb3 HN HW
        go_wp2_with fail
        refine (nr_begin (nr_nil X3)).mono ?_
        rintro e Y ⟨rfl, hY⟩
        obtain rfl : X3 = Y := hY
        go_wp2_with fail
        refine (nr_put HN3.out k none 0 0).mono ?_
        rintro e Y ⟨rfl, hY⟩
        obtain rfl : X3 = Y := hY
        go_wp2_with fail
        refine (nr_delete (nr_nil X3) k).mono ?_
        rintro e Y ⟨rfl, hY⟩
        obtain rfl : X3 = Y := hY
        go_wp2_with fail
        refine (nr_abandon HN3.out).mono ?_
        rintro e Y ⟨rfl, hY⟩
        obtain rfl : X3 = Y := hY
        go_wp2_with fail
        refine (nr_compact (nr_nil X3)).mono ?_
        rintro e Y ⟨rfl, hY⟩
        obtain rfl : X3 = Y := hY
        go_wp2_with fail
        refine (nr_keys (nr_nil X3) _).mono ?_
        rintro e Y ⟨rfl, hY⟩
        obtain rfl : X3 = Y := hY
        go_wp2_with fail
        refine (nr_keys HN3.out _).mono ?_
        rintro e Y ⟨rfl, hY⟩
        obtain rfl : X3 = Y := hY
        go_wp2_with fail
        refine (nr_commits (nr_nil X3)).mono ?_
        rintro e Y ⟨rfl, hY⟩
        obtain rfl : X3 = Y := hY
        go_wp2_with fail
        refine (nr_commits HN3.out).mono ?_
        rintro e Y ⟨rfl, hY⟩
        obtain rfl : X3 = Y := hY
        go_wp2_with fail
        refine (nr_writes (nr_nil X3)).mono ?_
        rintro e Y ⟨rfl, hY⟩
        obtain rfl : X3 = Y := hY
        go_wp2_with fail
        refine (nr_writes HN3.out).mono ?_
        rintro e Y ⟨rfl, hY⟩
        obtain rfl : X3 = Y := hY
        go_wp2_with fail
        have hfa := run_field_areas
        have hia := run_index2a
        refine (nr_image HN3.out).mono ?_
        rintro e X4 ⟨rfl, hb4⟩
        have HW4 := Lib.hid (HW3.out.trans (hb4.mono HW3.out.size))
        clear hb4 HN3 HW3
        go_wp2_with fail
        refine (lives_any X4).mono ?_
        rintro e X5 ⟨rfl, hb5⟩
        have HW5 := Lib.hid (HW4.out.trans (hb5.mono HW4.out.size))
        clear hb5 HW4 hfa hia
        go_wp2_with fail
        go_ret
        exact ⟨rfl, HW5.out⟩
end Go.Proofs.Ythjjbaiijelhnaa
