import Derived.Test.YtjbepnkchoaipaaGreatM03
import Derived.Deep.QuietTactic
import Derived.BigQuiet
import Derived.Outline
set_option linter.unusedVariables false
set_option linter.unusedSimpArgs false
/- Contract: valid. -/
namespace Go.Proofs.YtjbepnkchoaipaaGreat
open Go.RowKit Go.Lib
set_option maxRecDepth 100000
theorem get_q (A : Option Addr) (n : Nat) (l : List UInt8) (w : World) (M : Nat → Prop) (h : By w M A n l) (hn : n ≤ 8) (x : Nat) (hx : J.leV l = x) :
    ∀ c k, Calls Tryz.prog 85 #[.slice A n c] (w.drewN k) fun e w'' => e = .returned (.int .u64 (x : Nat)) ∧ ∃ m, w'' = w.drewN m := fun c k => by
  subst hx
  exact Calls.quiet_of_same ((get_any A n c l (w.drewN k) M (h.drewN k) hn).mono fun _ _ ⟨h1, h2⟩ => ⟨h1, h2.symm⟩)
theorem bytesEqual_q (A0 A1 : Option Addr) (n0 n1 : Nat) (l0 l1 : List UInt8) (w : World) (M0 M1 : Nat → Prop) (hy0 : By w M0 A0 n0 l0) (hy1 : By w M1 A1 n1 l1) (q : Bool) (hq : (l0 == l1) = q) :
    ∀ c0 c1 k, Calls Tryz.prog 34 #[.slice A0 n0 c0, .slice A1 n1 c1] (w.drewN k) fun e w'' => e = .returned (.bool q) ∧ ∃ m, w'' = w.drewN m := fun c0 c1 k => by
  subst hq
  exact Calls.quiet_of_same ((bytesEqual_any A0 A1 n0 n1 c0 c1 l0 l1 (w.drewN k) M0 M1 (hy0.drewN k) (hy1.drewN k)).mono fun _ _ ⟨h1, h2⟩ => ⟨h1, h2.symm⟩)
theorem By.slice {w : World} {M : Nat → Prop} {b o n : Nat} {l : List UInt8} (h : By w M (some ⟨b, o, none⟩) n l) (i j : Nat) (hij : i ≤ j) (hj : j ≤ n) : By w M (some ⟨b, o + i, none⟩) (j - i) ((l.take j).drop i) := by
  refine ⟨by rw [List.length_drop, List.length_take, h.1]; omega, fun hn => ?_⟩
  obtain ⟨b', o', e, hb, hM, hc⟩ := h.2 (by omega)
  injection e with e; injection e with e1 e2
  subst e1 e2
  refine ⟨b, o + i, rfl, hb, hM, fun k hk => ?_⟩
  rw [List.length_drop, List.length_take, h.1] at hk
  rw [Nat.add_assoc, hc (i + k) (by rw [h.1]; omega)]
  simp
/-- What valid returns. -/
def validV (l : List UInt8) : Value := match J.valid l with
  | some (g, a) => .tuple #[.int .u64 (g : Nat), .int .i64 (a : Nat), .bool true]
  | none => .tuple #[.int .u64 0, .int .i64 0, .bool false]
set_option maxHeartbeats 2000000 in
theorem valid_any (A : Option Addr) (n c : Nat) (l : List UInt8) (w : World) (M : Nat → Prop) (h : By w M A n l) (hc : n ≤ c) (hn : n ≤ 90000000) :
    Calls Tryz.prog 57 #[.slice A n c] w fun e w' => e = .returned (validV l) ∧ ∃ k, w' = w.drewN k := by
  have hlen := h.1
  by_cases h24 : n = 24
  · subst h24
    obtain ⟨b, o, rfl, _, _, _⟩ := h.2 (by omega)
    have hE := bytesEqual_q _ _ _ _ _ _ w M M (show By w M (some ⟨b, o, none⟩) 12 (l.take 12) from h.slice 0 12 (by omega) (by omega)) (show By w M (some ⟨b, o + 12, none⟩) 12 ((l.take 24).drop 12) from h.slice 12 24 (by omega) (by omega)) _ rfl
    have hG := get_q _ _ _ w M (show By w M (some ⟨b, o + 8, none⟩) 4 ((l.take 12).drop 8) from h.slice 8 12 (by omega) (by omega)) (by omega) _ rfl
    have hF := get_q _ _ _ w M (show By w M (some ⟨b, o, none⟩) 8 (l.take 8) from h.slice 0 8 (by omega) (by omega)) (by omega) _ rfl
    have hG2 := fun n => get_q _ _ _ (w.drewN n) M (show By (w.drewN n) M (some ⟨b, o + 8, none⟩) 4 ((l.take 12).drop 8) from (h.slice 8 12 (by omega) (by omega)).drewN n) (by omega) _ rfl
    have hF2 := fun n => get_q _ _ _ (w.drewN n) M (show By (w.drewN n) M (some ⟨b, o, none⟩) 8 (l.take 8) from (h.slice 0 8 (by omega) (by omega)).drewN n) (by omega) _ rfl
    have e1 : l.take 24 = l := List.take_of_length_le (by omega)
    rw [e1] at hE
    have hv : validV l = if (l.take 12 == l.drop 12) = true ∧ J.leV ((l.take 12).drop 8) ≤ 1 ∧ J.leV (l.take 8) ≤ 4611686018427387904 then .tuple #[.int .u64 (J.leV (l.take 8) : Nat), .int .i64 (J.leV ((l.take 12).drop 8) : Nat), .bool true] else .tuple #[.int .u64 0, .int .i64 0, .bool false] := by
      unfold validV J.valid J.latest
      simp only [hlen, true_and, beq_iff_eq]
      split
      · rename_i g a he
        split at he
        · rename_i hh
          rw [if_pos hh]; injection he with he; injection he with h1 h2; rw [h1, h2]
        · cases he
      · rename_i he
        split at he
        · cases he
        · rename_i hh; rw [if_neg hh]
    rw [hv]
    clear hv hlen e1 h
    have hgl : J.leV (l.take 8) < 18446744073709551616 := by
      have := J.leV_lt (l.take 8)
      refine Nat.lt_of_lt_of_le this ?_
      calc 256 ^ (l.take 8).length ≤ 256 ^ 8 := Nat.pow_le_pow_right (by omega) (List.length_take_le _ _)
        _ = 18446744073709551616 := by decide +kernel
    generalize (l.take 12 == l.drop 12) = q at hE
    generalize J.leV ((l.take 12).drop 8) = a at hG hG2
    generalize J.leV (l.take 8) = g at hF hF2 hgl
    have HE := Lib.hid hE
    have HG := Lib.hid hG
    have HF := Lib.hid hF
    have HG2 := Lib.hid hG2
    have HF2 := Lib.hid hF2
    clear hE hG hF hG2 hF2
    have hc0 : (24 : Int) ≤ (c : Int) := by omega
    cases q with
    | false =>
      rw [if_neg (by simp)]
      go_enter Tryz.func57, Tryz.ntmps57
      go_wp2_with fail
      go_quiet ((go_at_call 34; with_reducible exact HE.out _ _ _))
      go_wp2
      go_ret3
      exact ⟨rfl, _, rfl⟩
    | true =>
      by_cases ha : a ≤ 1
      · by_cases hg : g ≤ 4611686018427387904
        · rw [if_pos ⟨rfl, ha, hg⟩]
          have h1 : ((a : Nat) : Int) ≤ 1 := by omega
          have h2 : ((g : Nat) : Int) ≤ 4611686018427387904 := by omega
          have d1 : decide ((1 : Int) < ((a : Nat) : Int)) = false := decide_eq_false (by omega)
          have d2 : decide ((4611686018427387904 : Int) < ((g : Nat) : Int)) = false := decide_eq_false (by omega)
          clear ha hg
          go_enter Tryz.func57, Tryz.ntmps57
          go_wp2_with fail
          go_quiet ((first | (go_at_call 34; with_reducible exact HE.out _ _ _) | (go_at_call 85; first | (with_reducible exact HG.out _ _) | (with_reducible exact HF.out _ _))))
          go_wp2_with fail
          have hGW := HG2.out nq
          have hFW := HF2.out nq
          have hD := World.drewN_drewN w nq
          generalize w.drewN nq = W2 at hGW hFW hD ⊢
          have HGW := Lib.hid hGW
          have HFW := Lib.hid hFW
          have HD := Lib.hid hD
          clear hGW hFW hD
          go_quiet ((go_at_call 85; first | (with_reducible exact HGW.out _ _) | (with_reducible exact HFW.out _ _)))
          go_wp2
          go_ret3
          exact ⟨rfl, _, HD.out _⟩
        · rw [if_neg (fun h => hg h.2.2)]
          have h1 : ((a : Nat) : Int) ≤ 1 := by omega
          have h2 : 4611686018427387904 < ((g : Nat) : Int) := by omega
          have d1 : decide ((1 : Int) < ((a : Nat) : Int)) = false := decide_eq_false (by omega)
          have d2 : decide ((4611686018427387904 : Int) < ((g : Nat) : Int)) = true := decide_eq_true (by omega)
          clear ha hg
          go_enter Tryz.func57, Tryz.ntmps57
          go_wp2_with fail
          go_quiet ((first | (go_at_call 34; with_reducible exact HE.out _ _ _) | (go_at_call 85; first | (with_reducible exact HG.out _ _) | (with_reducible exact HF.out _ _))))
          go_wp2
          go_ret3
          exact ⟨rfl, _, rfl⟩
      · rw [if_neg (fun h => ha h.2.1)]
        have h1 : 1 < ((a : Nat) : Int) := by omega
        clear ha
        go_enter Tryz.func57, Tryz.ntmps57
        go_wp2_with fail
        go_quiet ((first | (go_at_call 34; with_reducible exact HE.out _ _ _) | (go_at_call 85; first | (with_reducible exact HG.out _ _) | (with_reducible exact HF.out _ _))))
        go_wp2
        go_ret3
        exact ⟨rfl, _, rfl⟩
  · have hv : validV l = .tuple #[.int .u64 0, .int .i64 0, .bool false] := by
      unfold validV J.valid; rw [if_neg (by rw [hlen]; exact fun h => h24 h.1)]
    rw [hv]
    have hne : ((n : Int) != 24) = true := by simp; omega
    have hne2 : ((n : Int) == 24) = false := by simp; omega
    clear hv hlen h
    go_enter Tryz.func57, Tryz.ntmps57
    go_wp2_with fail
    go_quiet (fail)
    go_wp2
    go_ret3
    exact ⟨rfl, _, rfl⟩
end Go.Proofs.YtjbepnkchoaipaaGreat
