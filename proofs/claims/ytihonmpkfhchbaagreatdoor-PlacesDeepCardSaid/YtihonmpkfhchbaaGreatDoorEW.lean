import Derived.Test.YtihonmpkfhchbaaGreatDoorEO
import Derived.WalkKit
import Derived.Test.YtihonmpkfhchbaaGreatDoorWA
namespace Go.Ev
open Go Go.RowKit Go.Proofs Go.Proofs.YtihonmpkfhchbaaGreatDoor
set_option maxRecDepth 1000000
theorem of_code {P : Program} {c c' : Code} {Q : Exit → Act → World → Prop} {a : Act} {w : World} (h : c'.wp P Q a w) (e : c = c') : c.wp P Q a w := by rw [e]; exact h
theorem pd_walk (d : Nat) (hd : d < 256) (b : Bool) (w : World) (R : Ending → World → Prop)
    (hrest : ∀ a, a.tmps.size = 105 → a.defers = [] → a.tmps[1]? = some (.bool b) → a.tmps[4]? = some (.bool false) → a.tmps[5]? = some (.int .i64 ((28 + d % 8 : Nat) : Int)) → pd2.wp Tryz.prog (bodyPost Tryz.prog Tryz.f3 R) a w) :
    Calls Tryz.prog 3 #[.int .u8 d, .bool b] w R := by
  have hm : Int.tmod (d : Int) 8 = ((d % 8 : Nat) : Int) := by rw [Int.tmod_eq_emod_of_nonneg (by omega)]; omega
  go_enter Tryz.func3, Tryz.ntmps3
  refine wp_seq_k fun K hK => ?_
  have HK := Lib.hid hK
  clear hK
  go_wp2
  refine HK.out _ _ ?_
  clear HK K
  refine wp_seq_k fun K hK => ?_
  have HK := Lib.hid hK
  clear hK
  go_wp2
  refine HK.out _ _ ?_
  clear HK K
  refine of_code (hrest _ ?_ ?_ ?_ ?_ ?_) (by kernel_rfl)
  · rfl
  · rfl
  · rfl
  · rfl
  · exact congrArg (fun x => some (Value.int .i64 x)) (show (28 + (d : Int) % 8) = ((28 + d % 8 : Nat) : Int) by omega)
theorem pdTm_get {b : Bool} {n t : Nat} {v : Value} (h : (pdTm b n).get t = some v) : (t = 1 ∧ v = .bool b) ∨ (t = 4 ∧ v = .bool false) ∨ (t = 5 ∧ v = .int .i64 n) := by
  unfold pdTm at h
  rw [Tr.get_set] at h
  split at h
  · rename_i e; injection h with h; exact .inr (.inr ⟨e, h.symm⟩)
  rw [Tr.get_set] at h
  split at h
  · rename_i e; injection h with h; exact .inr (.inl ⟨e, h.symm⟩)
  rw [Tr.get_set] at h
  split at h
  · rename_i e; injection h with h; exact .inl ⟨e, h.symm⟩
  · simp at h
theorem pd_all_ok : allR Tryz.prog (tabOf (tabL tabs) 3) pd2 = true := by kernel_rfl
theorem pd_from {hs : HookT} (h1 : ∀ x ∈ hs, HkF Tryz.prog x.1 x.2) {b : Bool} {n : Nat} (h2 : givesV (pdRc (pdRun (hookL hs) b n)) (.bool true) = true) (w : World) (hJ : J w)
    (a : Act) (k1 : a.tmps.size = 105) (k2 : a.defers = []) (k3 : a.tmps[1]? = some (.bool b)) (k4 : a.tmps[4]? = some (.bool false)) (k5 : a.tmps[5]? = some (.int .i64 (n : Int))) :
    pd2.wp Tryz.prog (bodyPost Tryz.prog Tryz.f3 (fun e w' => e = .returned (.bool true) ∧ Below w.heap.size w w')) a w := by
  obtain ⟨H0, hr⟩ := givesV_ok h2
  unfold pdRc at hr
  split at hr <;> try (cases hr; done)
  rename_i tm H hrun
  split at hr <;> try (cases hr; done)
  rename_i v hv
  injection hr with hr1 hr2
  subst hr1; subst hr2
  have hH := startH_ok (laid_of hJ) hJ (Nat.le_refl _)
  refine wp_mono ((run_ok mixed tabs_ok (hookL_ok h1) 100000 _ _ _ _ _ _ _ _ pd_all_ok hrun).2 _ _ w a hH ⟨k1, fun t u hu => ?_, k2, hH.gl⟩).1 fun e1 a1 w1 hq => ?_
  · rcases pdTm_get hu with ⟨rfl, rfl⟩ | ⟨rfl, rfl⟩ | ⟨rfl, rfl⟩
    · exact ⟨_, k3, .bool _⟩
    · exact ⟨_, k4, .bool _⟩
    · exact ⟨_, k5, .int _ _⟩
  · obtain ⟨rfl, φ', q1, q2, q3, q4⟩ := hq
    obtain ⟨v', r1, r2⟩ := results_ok (P := Tryz.prog) (fn := Tryz.f3) (l := [.bool true]) q2 q4 (by
      show (match resV Tryz.prog tm H0 (.tmp 4) with | some v => some [v] | none => none) = _
      simp only [resV, hv])
    cases r1
    exact ⟨q4.defers, _, r2, rfl, q3.below hH⟩
theorem deep_from (d : Nat) (hd : d < 256) (b : Bool) {hs : HookT} (h1 : ∀ x ∈ hs, HkF Tryz.prog x.1 x.2) (h2 : givesV (pdRc (pdRun (hookL hs) b (28 + d % 8))) (.bool true) = true) (w : World) (hJ : J w) :
    Calls Tryz.prog 3 #[.int .u8 d, .bool b] w (fun e w' => e = .returned (.bool true) ∧ Below w.heap.size w w') :=
  pd_walk d hd b w _ fun a k1 k2 k3 k4 k5 => pd_from h1 h2 w hJ a k1 k2 k3 k4 k5
end Go.Ev
