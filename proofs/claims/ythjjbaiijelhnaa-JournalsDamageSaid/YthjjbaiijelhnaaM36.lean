import Derived.Test.YthjjbaiijelhnaaM00
import Derived.Test.YthjjbaiijelhnaaM02
import Derived.Deep.CutRange
set_option linter.unusedVariables false
set_option linter.unusedSimpArgs false
/- Law 30: acts in memory; big; behind. -/
namespace Go.Proofs.Ythjjbaiijelhnaa
open Go.RowKit Go.Lib
set_option maxRecDepth 100000
namespace J
structure Ac where
  what : Nat
  key : Nat
  val : B
def units (L : List Ac) : Nat := (L.map fun a => 1 + a.val.length / 8).sum
theorem units_snoc (L : List Ac) (k : Nat) (h : k < L.length) : units (L.take (k + 1)) = units (L.take k) + (1 + L[k].val.length / 8) := by
  unfold units
  rw [List.take_succ_eq_append_getElem h, List.map_append, List.sum_append]; simp
theorem units_take (L : List Ac) (k : Nat) : units (L.take k) ≤ units L := by
  unfold units
  conv => rhs; rw [← List.take_append_drop k L, List.map_append, List.sum_append]
  omega
theorem units_len (L : List Ac) : L.length ≤ units L := by
  unfold units
  induction L with
  | nil => exact Nat.le_refl _
  | cons a t ih => simp only [List.map_cons, List.sum_cons, List.length_cons]; omega
theorem units_le (L : List Ac) (a : Ac) (h : a ∈ L) : 1 + a.val.length / 8 ≤ units L := by
  unfold units
  induction L with
  | nil => cases h
  | cons b t ih =>
    simp only [List.map_cons, List.sum_cons]
    rcases List.mem_cons.1 h with rfl | h
    · omega
    · have := ih h; omega
end J
theorem u8_lit' (x : Nat) (h : x < 256) : some (Value.int .u8 (x : Int)) = some (u8 (UInt8.ofNat x)) := by
  simp [u8, Nat.mod_eq_of_lt h]
/-- Acts that are read. -/
def ActsAt (w : World) (M : Nat → Prop) (A : Option Addr) (L : List J.Ac) : Prop :=
  0 < L.length → ∃ b o, A = some ⟨b, o, none⟩ ∧ b < w.heap.size ∧ ¬ M b ∧ ∀ i (h : i < L.length), w.cell? ⟨b, o + i * 3, none⟩ = some (.int .u8 L[i].what) ∧ w.cell? ⟨b, o + i * 3 + 1, none⟩ = some (.int .u8 L[i].key) ∧
    (∃ v, w.cell? ⟨b, o + i * 3 + 2, none⟩ = some v ∧ Sl w M v L[i].val) ∧ L[i].what < 256 ∧ L[i].key < 256
theorem ActsAt.step {w w' : World} {M M' : Nat → Prop} {A : Option Addr} {L : List J.Ac} (h : ActsAt w M A L) (hs : Step M M' w w') : ActsAt w' M' A L := fun hn => by
  obtain ⟨b, o, e, hb, hM, hc⟩ := h hn
  refine ⟨b, o, e, Nat.lt_of_lt_of_le hb hs.size, fun hm => hM (hs.sub b hb hm), fun i hi => ?_⟩
  obtain ⟨h1, h2, ⟨v, h3, h4⟩, h5, h6⟩ := hc i hi
  exact ⟨(hs.cell (a := ⟨b, o + i * 3, none⟩) hb hM).trans h1, (hs.cell (a := ⟨b, o + i * 3 + 1, none⟩) hb hM).trans h2, ⟨v, (hs.cell (a := ⟨b, o + i * 3 + 2, none⟩) hb hM).trans h3, h4.step hs⟩, h5, h6⟩
theorem ActsAt.weak {w : World} {M M' : Nat → Prop} {A : Option Addr} {L : List J.Ac} (h : ActsAt w M A L) (hM : ∀ k, M' k → M k) : ActsAt w M' A L := fun hn => by
  obtain ⟨b, o, e, hb, hm, hc⟩ := h hn
  refine ⟨b, o, e, hb, fun h => hm (hM b h), fun i hi => ?_⟩
  obtain ⟨h1, h2, ⟨v, h3, h4⟩, h5, h6⟩ := hc i hi
  exact ⟨h1, h2, ⟨v, h3, h4.weak hM⟩, h5, h6⟩
theorem big_any (A : Option Addr) (c : Nat) (L : List J.Ac) (most : Nat) (w : World) (h : ActsAt w NoM A L) (hm : most ≤ 1000) (hl : L.length ≤ 9223372036854775807) (hv : ∀ a ∈ L, a.val.length ≤ 9223372036854775807) :
    Calls Try.prog 28 #[.slice A L.length c, .int .i64 most] w fun e w' => e = .returned (.bool (decide (most < J.units L))) ∧ w = w' := by
  have H := Lib.hid h
  have HV := Lib.hid hv
  have hl0 : (L.length : Int) ≤ 9223372036854775807 := by omega
  clear h hv
  go_enter Try.func28, Try.ntmps28
  go_wp2
  go_loop [5, 6] (fun n i => ∃ k : Nat, k ≤ L.length ∧ i = .int .i64 k ∧ n = .int .i64 (J.units (L.take k) : Nat) ∧ J.units (L.take k) ≤ 1152921504606848000) (fun _ i => L.length - (intOf i).toNat)
  case atStart => exact ⟨0, Nat.zero_le _, rfl, rfl, Nat.zero_le _⟩
  case round =>
    obtain ⟨k, hk, rfl, rfl, hu⟩ := hrel
    by_cases hlt : k < L.length
    · by_cases hmu : J.units (L.take k) ≤ most
      · obtain ⟨b, o, rfl, hb, _, hc⟩ := H.out (by omega)
        obtain ⟨_, _, ⟨v, h3, h4⟩, _, _⟩ := hc k hlt
        obtain ⟨Av, cv, rfl, _, hby⟩ := h4.by
        have HS := Lib.hid (J.units_snoc L k hlt)
        have hvl := HV.out _ (List.getElem_mem hlt)
        clear h4 hby hc
        generalize L[k].val.length = n at h3 HS hvl
        have hn0 : (n : Int) ≤ 9223372036854775807 := by omega
        have hn1 : (0 : Int) ≤ (n : Int) := by omega
        have hq : (n : Int).tdiv 8 = ((n / 8 : Nat) : Int) := rfl
        generalize J.units (L.take k) = U at hu hmu HS
        have hU : (U : Int) ≤ most := by omega
        go_wp2
        go_round
        case rel => exact ⟨k + 1, by omega, by go_num, by rw [HS.out]; congr 1; omega, by rw [HS.out]; omega⟩
        case measure => simp [intOf]; omega
      · have hmu2 : ¬ (J.units (L.take k) : Int) ≤ (most : Int) := by omega
        have HU := Lib.hid (Nat.lt_of_lt_of_le (Nat.lt_of_not_le hmu) (J.units_take L k))
        go_wp2
        go_ret
        exact ⟨ret_bool (by rw [decide_eq_true HU.out]; simp; omega), rfl⟩
    · obtain rfl : k = L.length := by omega
      rw [List.take_length] at hu ⊢
      go_wp2
      go_ret
      exact ⟨ret_bool (by simp), rfl⟩
/-- Numbers that are read. -/
def NumsAt (w : World) (A : Option Addr) (L : List Nat) : Prop := 0 < L.length → ∃ b o, A = some ⟨b, o, none⟩ ∧ b < w.heap.size ∧ ∀ i (h : i < L.length), w.cell? ⟨b, o + i, none⟩ = some (.int .i64 (L[i] : Nat))
theorem lastIx_take (L : List Nat) (k w : Nat) (h : k < L.length) : J.lastIx (L.take (k + 1)) w = if L[k] ≤ w then k else J.lastIx (L.take k) w := by
  unfold J.lastIx
  rw [List.take_succ_eq_append_getElem h, List.zipIdx_append, List.foldl_append]
  simp [Nat.min_eq_left (Nat.le_of_lt h)]
theorem behind_any (A : Option Addr) (c : Nat) (L : List Nat) (writes torn whole : Nat) (w : World) (h : NumsAt w A L) (hl : L.length ≤ 100000) (hw : writes ≤ 1000000000) (hL : ∀ x ∈ L, x ≤ 1000000000) :
    Calls Try.prog 31 #[.slice A L.length c, .int .i64 writes, .int .i64 torn, .int .i64 whole] w fun e w' => e = .returned (.int .i64 (J.lastIx L (if 0 < torn ∧ torn = whole then writes + 1 else writes) : Nat)) ∧ w = w' := by
  have H := Lib.hid h
  have HL := Lib.hid hL
  clear h hL
  by_cases h1 : 0 < torn
  · have h1' : (0 : Int) < (torn : Int) := by omega
    by_cases h2 : torn = whole
    · have h2' : ((torn : Int) == (whole : Int)) = true := by simp [h2]
      have h2'' : (torn : Int) = (whole : Int) := by omega
      rw [if_pos ⟨h1, h2⟩]
      clear h1 h2
      go_enter Try.func31, Try.ntmps31
      go_wp2
      go_loop [9, 10] (fun n i => ∃ k : Nat, k ≤ L.length ∧ i = .int .i64 k ∧ n = .int .i64 (J.lastIx (L.take k) (writes + 1) : Nat)) (fun _ i => L.length - (intOf i).toNat)
      case atStart => exact ⟨0, Nat.zero_le _, rfl, rfl⟩
      case round =>
        obtain ⟨k, hk, rfl, rfl⟩ := hrel
        by_cases hlt : k < L.length
        · obtain ⟨b, o, rfl, hb, hc⟩ := H.out (by omega)
          have hck := hc k hlt
          have HLT := Lib.hid (lastIx_take L k (writes + 1) hlt)
          generalize L[k] = x at hck HLT
          clear hc
          by_cases hxw : x ≤ writes + 1
          · have hxw' : (x : Int) ≤ (writes : Int) + 1 := by omega
            go_wp2
            go_round
            case rel => exact ⟨k + 1, by omega, by go_num, by rw [HLT.out, if_pos hxw]⟩
            case measure => simp [intOf]; omega
          · have hxw' : ¬ (x : Int) ≤ (writes : Int) + 1 := by omega
            go_wp2
            go_round
            case rel => exact ⟨k + 1, by omega, by go_num, by rw [HLT.out, if_neg hxw]⟩
            case measure => simp [intOf]; omega
        · obtain rfl : k = L.length := by omega
          rw [List.take_length]
          go_wp2
          go_ret
          exact ⟨rfl, rfl⟩
    · have h2' : ((torn : Int) == (whole : Int)) = false := by simp; omega
      have h2'' : ¬ (torn : Int) = (whole : Int) := by omega
      rw [if_neg (fun h => h2 h.2)]
      clear h1 h2
      go_enter Try.func31, Try.ntmps31
      go_wp2
      go_loop [9, 10] (fun n i => ∃ k : Nat, k ≤ L.length ∧ i = .int .i64 k ∧ n = .int .i64 (J.lastIx (L.take k) (writes) : Nat)) (fun _ i => L.length - (intOf i).toNat)
      case atStart => exact ⟨0, Nat.zero_le _, rfl, rfl⟩
      case round =>
        obtain ⟨k, hk, rfl, rfl⟩ := hrel
        by_cases hlt : k < L.length
        · obtain ⟨b, o, rfl, hb, hc⟩ := H.out (by omega)
          have hck := hc k hlt
          have HLT := Lib.hid (lastIx_take L k (writes) hlt)
          generalize L[k] = x at hck HLT
          clear hc
          by_cases hxw : x ≤ writes
          · have hxw' : (x : Int) ≤ (writes : Int) := by omega
            go_wp2
            go_round
            case rel => exact ⟨k + 1, by omega, by go_num, by rw [HLT.out, if_pos hxw]⟩
            case measure => simp [intOf]; omega
          · have hxw' : ¬ (x : Int) ≤ (writes : Int) := by omega
            go_wp2
            go_round
            case rel => exact ⟨k + 1, by omega, by go_num, by rw [HLT.out, if_neg hxw]⟩
            case measure => simp [intOf]; omega
        · obtain rfl : k = L.length := by omega
          rw [List.take_length]
          go_wp2
          go_ret
          exact ⟨rfl, rfl⟩
  · have h1' : ¬ (0 : Int) < (torn : Int) := by omega
    rw [if_neg (fun h => h1 h.1)]
    clear h1
    go_enter Try.func31, Try.ntmps31
    go_wp2
    go_loop [9, 10] (fun n i => ∃ k : Nat, k ≤ L.length ∧ i = .int .i64 k ∧ n = .int .i64 (J.lastIx (L.take k) (writes) : Nat)) (fun _ i => L.length - (intOf i).toNat)
    case atStart => exact ⟨0, Nat.zero_le _, rfl, rfl⟩
    case round =>
      obtain ⟨k, hk, rfl, rfl⟩ := hrel
      by_cases hlt : k < L.length
      · obtain ⟨b, o, rfl, hb, hc⟩ := H.out (by omega)
        have hck := hc k hlt
        have HLT := Lib.hid (lastIx_take L k (writes) hlt)
        generalize L[k] = x at hck HLT
        clear hc
        by_cases hxw : x ≤ writes
        · have hxw' : (x : Int) ≤ (writes : Int) := by omega
          go_wp2
          go_round
          case rel => exact ⟨k + 1, by omega, by go_num, by rw [HLT.out, if_pos hxw]⟩
          case measure => simp [intOf]; omega
        · have hxw' : ¬ (x : Int) ≤ (writes : Int) := by omega
          go_wp2
          go_round
          case rel => exact ⟨k + 1, by omega, by go_num, by rw [HLT.out, if_neg hxw]⟩
          case measure => simp [intOf]; omega
      · obtain rfl : k = L.length := by omega
        rw [List.take_length]
        go_wp2
        go_ret
        exact ⟨rfl, rfl⟩
end Go.Proofs.Ythjjbaiijelhnaa
