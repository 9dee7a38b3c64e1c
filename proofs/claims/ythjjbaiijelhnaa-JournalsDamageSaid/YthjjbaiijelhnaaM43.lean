import Derived.Test.YthjjbaiijelhnaaM31
set_option linter.unusedVariables false
set_option linter.unusedSimpArgs false
/- Law 30: size. -/
namespace Go.Proofs.Ythjjbaiijelhnaa
open Go.RowKit Go.Lib Go.Maps Go.WideMaps Go.Sort
set_option maxRecDepth 100000
namespace J
/-- How many bytes the write behind k writes has. -/
def wlen (s : St) (k : Nat) : Nat := match s.writes[k]? with
  | none => 0
  | some wr => wr.bs.length
theorem wlen_cut {s : St} {k n : Nat} (h : n ≤ wlen s k) : n = 0 ∨ ∃ wr, s.writes[k]? = some wr ∧ n ≤ wr.bs.length := by
  unfold wlen at h
  split at h
  · exact .inl (by omega)
  · rename_i wr e; exact .inr ⟨wr, e, h⟩
theorem wlen_no {s : St} {k n : Nat} (hk : k ≤ s.writes.length) (h : wlen s k < n) : NoCut s k n := by
  unfold NoCut
  refine .inr (.inr (.inr ⟨by omega, ?_⟩))
  by_cases e : k = s.writes.length
  · exact .inl (by omega)
  · refine .inr ⟨k, by omega, rfl, ?_⟩
    unfold wlen at h
    rw [List.getElem?_eq_getElem (by omega)] at h
    dsimp only at h
    omega
theorem wlen_le {s : St} {k b : Nat} (h : ∀ w ∈ s.writes, w.bs.length ≤ b) : wlen s k ≤ b := by
  unfold wlen
  split
  · omega
  · rename_i wr e; exact h _ (List.mem_of_getElem? e)
end J
theorem at_cutB {w0 w : World} {p : Nat} {s : J.St} (h : At w0 p s w) (hw : J.WOk s) (k t : Nat) (hk : k ≤ s.writes.length) (ht : t = 0 ∨ ∃ wr, s.writes[k]? = some wr ∧ t ≤ wr.bs.length) :
    Calls Try.prog 25 #[.pointer (some ⟨p, 0, none⟩), .int .i64 k, .int .i64 t] w fun e w' => ∃ v, e = .returned (.tuple #[v, .int .i64 0]) ∧ ImgC w' (· < w.heap.size) v (J.cutImg s k t) ∧ Below w.heap.size w w' := by
  obtain ⟨M, h1, h2, h3⟩ := h
  have ok : Ok s := h1.q.2
  have hc := cutOk hw ok.logged
  have hwl : s.writes.length ≤ 20000000 := by have := ok.writes; have := ok.logged; omega
  by_cases ht0 : t = 0
  · subst ht0
    refine (cut_whole p M s k w h1 hc hk hwl).mono ?_
    rintro e w' ⟨v, rfl, hi, hb⟩
    refine ⟨v, rfl, ?_, hb⟩
    have : J.cutImg s k 0 = J.foldDone s.base (s.writes.take k) := by unfold J.cutImg; cases s.writes[k]? <;> rfl
    rw [this]; exact hi
  · rcases ht with ht | ⟨wr, hwr, ht⟩
    · exact absurd ht ht0
    · obtain ⟨hlt, e⟩ := List.getElem?_eq_some_iff.1 hwr
      refine (cut_torn p M s k w h1 hc hlt t (by omega) (by rw [e]; exact ht) hwl).mono ?_
      rintro e' w' ⟨v, rfl, hi, hb⟩
      refine ⟨v, rfl, ?_, hb⟩
      have : J.cutImg s k t = J.done (J.foldDone s.base (s.writes.take k)) s.writes[k] t := by
        unfold J.cutImg
        rw [hwr]
        dsimp only
        rw [if_neg ht0, e]
      rw [this]; exact hi
theorem at_cut_noneB {w0 w : World} {p : Nat} {s : J.St} (h : At w0 p s w) (W T : Int) (hn : NoCut s W T) :
    Calls Try.prog 25 #[.pointer (some ⟨p, 0, none⟩), .int .i64 W, .int .i64 T] w fun e w' => e = .returned (.tuple #[nilI, .int .i64 13]) ∧ Below w.heap.size w w' := by
  obtain ⟨M, h1, h2, h3⟩ := h
  exact cut_none p M s W T w h1 hn
theorem at_imageB {w0 w : World} {p : Nat} {s : J.St} (h : At w0 p s w) : Calls Try.prog 17 #[.pointer (some ⟨p, 0, none⟩)] w fun e w' => ∃ v, e = .returned v ∧ ImgC w' (· < w.heap.size) v s.disk ∧ Below w.heap.size w w' := by
  obtain ⟨M, h1, h2, h3⟩ := h
  exact image_any p M s w h1
theorem size_cut {w0 w : World} {p : Nat} {s : J.St} (h : At w0 p s w) (hw : J.WOk s) (k n : Nat) (hk : k ≤ s.writes.length) :
    Calls Try.prog 25 #[.pointer (some ⟨p, 0, none⟩), .int .i64 k, .int .i64 n] w fun e w' => ∃ (Ca Cb C Cd : Option Addr) (na ca nb cb nc c nd cd : Nat) (f : Int), e = .returned (.tuple #[imgV (.slice Ca na ca) (.slice Cb nb cb) (.slice C nc c) (.slice Cd nd cd), .int .i64 f]) ∧ (n ≤ J.wlen s k ∧ f = 0 ∨ J.wlen s k < n ∧ f = 13) ∧ Below w.heap.size w w' := by
  by_cases ho : n ≤ J.wlen s k
  · refine (at_cutB h hw k n hk (J.wlen_cut ho)).mono ?_
    rintro e w' ⟨v, rfl, hi, hA⟩
    obtain ⟨y0, y1, y2, y3, rfl, q0, q1, q2, q3⟩ := hi
    obtain ⟨A0, rfl⟩ := q0.slice_
    obtain ⟨A1, rfl⟩ := q1.slice_
    obtain ⟨A2, rfl⟩ := q2.slice_
    obtain ⟨A3, rfl⟩ := q3.slice_
    exact ⟨A0, A1, A2, A3, _, _, _, _, _, _, _, _, 0, rfl, .inl ⟨ho, rfl⟩, hA⟩
  · refine (at_cut_noneB h k n (J.wlen_no hk (by omega))).mono ?_
    rintro e w' ⟨rfl, hA⟩
    exact ⟨none, none, none, none, 0, 0, 0, 0, 0, 0, 0, 0, 13, rfl, .inr ⟨by omega, rfl⟩, hA⟩
theorem size_any {w0 w : World} {p : Nat} {s : J.St} (h : At w0 p s w) (hw : J.WOk s) (k most : Nat) (hk : k ≤ s.writes.length) (hm : most ≤ 2000000) (hmw : J.wlen s k ≤ most) :
    Calls Try.prog 30 #[.pointer (some ⟨p, 0, none⟩), .int .i64 k, .int .i64 most] w fun e w' => e = .returned (.int .i64 (J.wlen s k : Nat)) ∧ Below w.heap.size w w' := by
  have HC := Lib.hid (fun (w1 : World) (n : Nat) (hb : Below w.heap.size w w1) => size_cut (h.below hb) hw k n hk)
  clear h hw hk
  generalize J.wlen s k = X at HC hmw
  go_enter Try.func30, Try.ntmps30
  go_wp2
  go_loopw [7, 8] (fun a b wr => ∃ lo hi : Nat, a = .int .i64 lo ∧ b = .int .i64 hi ∧ lo ≤ X ∧ X ≤ hi ∧ hi ≤ most ∧ Hid (Below w.heap.size w wr)) (fun a b _ => (intOf b).toNat - (intOf a).toNat)
  case atStart => exact ⟨0, most, rfl, rfl, Nat.zero_le _, hmw, Nat.le_refl _, Lib.hid (Below.refl _ _)⟩
  case round =>
    obtain ⟨lo, hi, rfl, rfl, h1, h2, h3, HA⟩ := hrel
    by_cases hlt : lo < hi
    · have hl2 : (lo : Int) < (hi : Int) := by omega
      obtain ⟨N, hN, hN1, hN2⟩ : ∃ N : Nat, ((lo : Int) + (hi : Int) + 1) / 2 = (N : Int) ∧ lo < N ∧ N ≤ hi := ⟨(lo + hi + 1) / 2, by omega, by omega, by omega⟩
      go_wp2_with fail
      refine (HC.out wr N HA.out).mono ?_
      rintro e w2 ⟨Ca, Cb, C, Cd, na, ca, nb, cb, nc, c, nd, cd, f, rfl, hf, hA2⟩
      have hA3 := HA.out.trans (hA2.mono HA.out.size)
      have HA2 := Lib.hid (hA3.alloc hA3.size (.cells #[.slice Ca na ca, .slice Cb nb cb, .slice C nc c, .slice Cd nd cd] 35))
      clear hA3
      clear hA2 HA
      rcases hf with ⟨hx, rfl⟩ | ⟨hx, rfl⟩
      · go_wp2_with fail
        go_roundw
        case rel => exact ⟨N, hi, rfl, rfl, hx, h2, h3, HA2⟩
        case measure => simp [intOf]; omega
      · go_wp2_with fail
        go_roundw
        case rel => exact ⟨lo, N - 1, rfl, by congr 1; omega, h1, by omega, by omega, HA2⟩
        case measure => simp [intOf]; omega
    · have hl2 : ¬ (lo : Int) < (hi : Int) := by omega
      obtain rfl : lo = X := by omega
      go_wp2
      go_ret
      exact ⟨rfl, HA.out⟩
end Go.Proofs.Ythjjbaiijelhnaa
