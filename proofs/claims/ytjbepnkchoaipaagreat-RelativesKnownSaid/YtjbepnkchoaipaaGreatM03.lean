import Derived.Test.YtjbepnkchoaipaaGreatM02
import Derived.Lib.AppendZerosOnto
import Derived.Lib.SliceRun
set_option linter.unusedVariables false
set_option linter.unusedSimpArgs false
/- Contracts: slices.Grow of nothing, slices.Concat of two slices of bytes, bytes.Equal. -/
namespace Go.Proofs.YtjbepnkchoaipaaGreat
open Go.RowKit Go.Lib
set_option maxRecDepth 100000
/-- An append whose run is known. -/
theorem wpList_append_run {P : Program} {w : World} {ops : Array Oper} {rest : List Oper} {o : Oper} {a : Act} {Q : Exit → Act → World → Prop} (hgd : o.guard = none) (s x : Operand) (t u : TypeId)
    (ho : o.op = .call { callee := .builtin .append, args := #[s, x], argTypes := #[t, u] }) (v1 v2 : Value) (hs : a.eval s = v1) (hx : a.eval x = v2) (v' : Value) (w' : World)
    (hrun : (Builtin.append_ #[t, u] o.type #[v1, v2]).run P w = .ok v' w') (h : wpList P ops Q rest (a.put o.dst v') w') : wpList P ops Q (o :: rest) a w := by
  refine wpList_plain hgd fun K hK => ?_
  unfold Oper.wp execOp
  simp only [ho, resolve, invoke, builtin, Sem.run_bind, Sem.run_pure, Result.andThen_ok, List.map_toArray, List.map_cons, List.map_nil, hs, hx, hrun]
  exact hK _ _ h
theorem growB_any (n : Nat) (w : World) (hn : n ≤ 90000000) :
    Calls Tryz.prog 100 #[.slice none 0 0, .int .i64 n] w fun e w' => ∃ v', e = .returned v' ∧ w'.ownsRow w.heap.size 5 1 v' 0 (u8s []) ∧ Below w.heap.size w w' := by
  obtain ⟨i0, hi0, hz0, hz1, hz2⟩ := info_parts Tryz.infoB
  rcases Nat.eq_zero_or_pos n with h0 | h0
  · subst h0
    go_enter Tryz.func100, Tryz.ntmps100
    go_wp2
    go_ret
    exact ⟨_, rfl, World.ownsRow_nil _ _ _ _, Below.refl _ _⟩
  · have hrz : ∀ ty, (Builtin.append_ #[37, 3] ty #[.slice none 0 0, .int .i64 (n : Int)]).run Tryz.prog w =
        .ok (.slice (some ⟨w.heap.size, 0, none⟩) n (grownCap w n 0 5)) (w.drew.alloc (.cells (Builtin.zeroCells (Value.int .u8 0).cells n ++ Builtin.zeroCells (Value.int .u8 0).cells (grownCap w n 0 5 - n)) 5)) := fun ty => by
      have h := Lib.run_append_grow_zeros (P := Tryz.prog) w 37 3 ty 5 i0 (.int .u8 0) .i64 .i64 Tryz.underlying37 Tryz.underlying3 hi0 hz0 none 0 0 [] (run_firstCells_none w.drew i0.size 0 0 0) n (by omega) (by omega) (by omega) (by omega)
        (by rw [hz2]; omega) (by rw [hz2]; exact growslice_fits (by omega) (by omega))
      simpa using h
    have hG := grownCap_ge w n 0 5
    have hG2 := grownCap_le_maxLen w n 0 5 (by unfold maxLen; omega)
    have hrow : ∀ C : Nat, n ≤ C → C ≤ maxLen → (w.drew.alloc (.cells (Builtin.zeroCells (Value.int .u8 0).cells n ++ Builtin.zeroCells (Value.int .u8 0).cells (C - n)) 5)).ownsRow w.heap.size 5 1 (.slice (some ⟨w.heap.size, 0, none⟩) 0 C) 0 (u8s []) := by
      intro C h1 h2
      refine World.ownsRow_made w.drew _ C (Nat.le_refl _) h2 ?_
      rw [Array.size_append, size_zeroCells, size_zeroCells]
      show n * 1 + (C - n) * 1 = C * 1
      omega
    generalize grownCap w n 0 5 = C at hrz hG hG2
    have HR := Lib.hid (hrow C hG hG2)
    have HZ := Lib.hid hrz
    clear hrz
    have hC : (C : Int) ≤ 9223372036854775807 := by unfold maxLen at hG2; omega
    have h1 : (0 : Int) < (n : Int) := by omega
    clear hrow hG2
    go_enter Tryz.func100, Tryz.ntmps100
    go_wp2_with (at_builtin; refine wpList_append_run rfl _ _ 37 3 rfl (.slice none 0 0) (.int .i64 (n : Int)) rfl rfl _ _ (HZ.out _) ?_)
    go_wp2_with fail
    go_ret
    exact ⟨_, rfl, HR.out, ((Below.refl _ _).drew).alloc (Nat.le_refl _) _⟩

/-- How much of two slices has been looked at. -/
def cat2 (l0 l1 : List UInt8) : Nat → List UInt8 | 0 => [] | 1 => l0 | _ => l0 ++ l1
set_option maxHeartbeats 1000000 in
theorem concat2_any (b : Nat) (A0 A1 : Option Addr) (n0 n1 c0 c1 : Nat) (l0 l1 : List UInt8) (w : World) (M0 M1 : Nat → Prop) (hb : b < w.heap.size) (h0 : w.cell? ⟨b, 0, none⟩ = some (.slice A0 n0 c0)) (h1 : w.cell? ⟨b, 1, none⟩ = some (.slice A1 n1 c1))
    (hy0 : By w M0 A0 n0 l0) (hy1 : By w M1 A1 n1 l1) (hn0 : n0 ≤ 40000000) (hn1 : n1 ≤ 40000000) :
    Calls Tryz.prog 84 #[.slice (some ⟨b, 0, none⟩) 2 2] w fun e w' => ∃ v', e = .returned v' ∧ w'.ownsRow w.heap.size 5 1 v' (n0 + n1) (u8s (l0 ++ l1)) ∧ Below w.heap.size w w' := by
  have H0 := Lib.hid h0
  have H1 := Lib.hid h1
  have HY0 := Lib.hid hy0
  have HY1 := Lib.hid hy1
  have e0 : l0.length = n0 := hy0.1
  have e1 : l1.length = n1 := hy1.1
  clear h0 h1 hy0 hy1
  go_enter Tryz.func84, Tryz.ntmps84
  go_wp2
  go_loop [3, 11] (fun s i => ∃ k : Nat, k ≤ 2 ∧ i = .int .i64 k ∧ s = .int .i64 ((cat2 l0 l1 k).length : Nat)) (fun _ i => 2 - (intOf i).toNat)
  case atStart => exact ⟨0, Nat.zero_le _, rfl, rfl⟩
  case round =>
    obtain ⟨k, hk, rfl, rfl⟩ := hrel
    rcases (show k = 0 ∨ k = 1 ∨ k = 2 by omega) with rfl | rfl | rfl
    · have hc := H0.out
      have hl : (cat2 l0 l1 0).length = 0 := rfl
      rw [hl]
      clear hl
      go_wp2
      go_round
      case rel => exact ⟨1, by omega, by go_num, by show _ = Value.int .i64 ((l0.length : Nat) : Int); rw [e0]⟩
      case measure => simp [intOf]
    · have hc := H1.out
      have hl : (cat2 l0 l1 1).length = n0 := e0
      have HL := Lib.hid hl
      rw [hl]
      clear hl
      go_wp2
      go_round
      case rel => exact ⟨2, by omega, by go_num, by show _ = Value.int .i64 (((l0 ++ l1).length : Nat) : Int); rw [List.length_append, e0, e1]; go_num⟩
      case measure => simp [intOf]
    · have hl : (cat2 l0 l1 2).length = n0 + n1 := by show (l0 ++ l1).length = _; rw [List.length_append, e0, e1]
      rw [hl]
      clear hl
      go_wp2_with fail
      have hg := growB_any (n0 + n1) w (by omega)
      rw [Int.natCast_add] at hg
      refine hg.mono ?_
      rintro e w1 ⟨v', rfl, hown, hbel⟩
      have HB := Lib.hid hbel
      have HO := Lib.hid hown
      clear hown hbel hg
      go_wp2
      go_loopw [6, 27] (fun s i wr => ∃ k : Nat, k ≤ 2 ∧ i = .int .i64 k ∧ wr.ownsRow w.heap.size 5 1 s (cat2 l0 l1 k).length (u8s (cat2 l0 l1 k)) ∧ Below w.heap.size w wr) (fun _ i _ => 2 - (intOf i).toNat)
      case atStart => exact ⟨0, Nat.zero_le _, rfl, HO.out, HB.out⟩
      case round =>
        obtain ⟨k, hk, rfl, hown, hbel⟩ := hrel
        have HBW := Lib.hid hbel
        have HOW := Lib.hid hown
        clear hown hbel
        rcases (show k = 0 ∨ k = 1 ∨ k = 2 by omega) with rfl | rfl | rfl
        · have hc := (HBW.out.cell (p := ⟨b, 0, none⟩) hb).trans H0.out
          go_wp2_with (at_builtin; refine wpList_app_by rfl _ _ rfl w.heap.size _ 0 [] rfl HOW.out M0 A0 n0 c0 l0 rfl (HY0.out.below HBW.out) (by omega) HBW.out.size ?_)
          intro v' w' hown hg hat hnil
          have HO2 := Lib.hid hown
          have HB2 := Lib.hid (HBW.out.grown hg HBW.out.size (fun j hj => (HOW.out.lt j hj).1))
          clear hown hg hat hnil
          go_wp2_with fail
          go_roundw
          case rel => exact ⟨1, by omega, by go_num, by show World.ownsRow _ _ _ _ _ l0.length (u8s l0); rw [e0]; exact HO2.out, HB2.out⟩
          case measure => simp [intOf]
        · have hc := (HBW.out.cell (p := ⟨b, 1, none⟩) hb).trans H1.out
          go_wp2_with (at_builtin; refine wpList_app_by rfl _ _ rfl w.heap.size _ l0.length l0 rfl HOW.out M1 A1 n1 c1 l1 rfl (HY1.out.below HBW.out) (by omega) HBW.out.size ?_)
          intro v' w' hown hg hat hnil
          have HO2 := Lib.hid hown
          have HB2 := Lib.hid (HBW.out.grown hg HBW.out.size (fun j hj => (HOW.out.lt j hj).1))
          clear hown hg hat hnil
          go_wp2_with fail
          go_roundw
          case rel => exact ⟨2, by omega, by go_num, by show World.ownsRow _ _ _ _ _ (l0 ++ l1).length (u8s (l0 ++ l1)); rw [List.length_append, e0, e1]; exact HO2.out, HB2.out⟩
          case measure => simp [intOf]
        · go_wp2
          go_ret
          exact ⟨_, rfl, by have : (cat2 l0 l1 2).length = n0 + n1 := by { show (l0 ++ l1).length = _; rw [List.length_append, e0, e1] }; have h2 := HOW.out; rw [this] at h2; exact h2, HBW.out⟩
theorem bytesEqual_any (A0 A1 : Option Addr) (n0 n1 c0 c1 : Nat) (l0 l1 : List UInt8) (w : World) (M0 M1 : Nat → Prop) (hy0 : By w M0 A0 n0 l0) (hy1 : By w M1 A1 n1 l1) :
    Calls Tryz.prog 34 #[.slice A0 n0 c0, .slice A1 n1 c1] w fun e w' => e = .returned (.bool (l0 == l1)) ∧ w = w' := by
  have hc : ∀ (A : Option Addr) (n c : Nat) (l : List UInt8) (M : Nat → Prop), By w M A n l → (convert 37 9 (.slice A n c)).run Tryz.prog w = .ok (.string ⟨l.toArray⟩) w := by
    intro A n c l M h
    rcases Nat.eq_zero_or_pos n with h0 | h0
    · subst h0
      obtain rfl : l = [] := List.eq_nil_of_length_eq_zero h.1
      rw [run_convert_bytes_string w 37 9 5 A 0 c Tryz.underlying37 Tryz.underlying5 Tryz.underlying9]
      cases A <;> rfl
    · obtain ⟨ad, rfl, _, _, hcl⟩ := h.at_ h0
      have e := h.1
      subst e
      exact run_convert_bytes_back w 37 9 5 ad c l Tryz.underlying37 Tryz.underlying5 Tryz.underlying9 hcl
  have hq0 := hc A0 n0 c0 l0 M0 hy0
  have hq1 := hc A1 n1 c1 l1 M1 hy1
  clear hc hy0 hy1
  go_enter Tryz.func34, Tryz.ntmps34
  go_wp2
  go_ret
  exact ⟨rfl, rfl⟩
end Go.Proofs.YtjbepnkchoaipaaGreat
