import Derived.Test.YtihonmpkfhchbaaGreatDoorEN
/- The chapter's examples hold: lives() of law 10 returns true at every world that lays the variables of packages as told. -/
namespace Go.Ev
open Go Go.RowKit Go.Proofs
set_option maxRecDepth 1000000
noncomputable def givesV (r : Rc) (v : Value) : Bool := Rc.rec (motive := fun _ => Bool) (fun v' _ => sameV 6 v' v) (fun _ => false) r
theorem givesV_ok {r : Rc} {v : Value} (h : givesV r v = true) : ∃ H, r = .ok v H := by
  cases r with
  | err e => cases h
  | ok v' H' =>
    have h' : sameV 6 v' v = true := h
    exact ⟨H', by rw [sameV_ok _ _ _ h']⟩
noncomputable def hksX : HookT := (4, ex_cut) :: hksM
theorem hksX_ok : ∀ x ∈ hksX, HkF Tryz.prog x.1 x.2 := fun x hx => by
  rcases List.mem_cons.1 hx with rfl | hx
  · exact ex_ok
  · exact hksM_ok x hx
theorem lives_run : givesV (runFn Tryz.prog (tabL tabs) (hookL hksX) 100000 9 [] (startH gs)) (.bool true) = true := by kernel_rfl
theorem lives_there : fnOf Tryz.prog 9 ≠ none := fun h => by
  have h2 : (fnOf Tryz.prog 9).isSome = true := by kernel_rfl
  rw [h] at h2; cases h2
theorem lives_calls (w : World) (hJ : J w) : Calls Tryz.prog 9 ⟨[]⟩ w (fun e w' => e = .returned (.bool true) ∧ Below w.heap.size w w') := by
  obtain ⟨H, hr⟩ := givesV_ok lives_run
  refine Calls.mono (calls_run mixed tabs_ok (hookL_ok hksX_ok) (Nat.le_refl _) hr (by kernel_rfl) w (laid_of hJ) hJ lives_there) fun e w' he => ?_
  obtain ⟨φ, v', rfl, _, hv, hb⟩ := he
  cases hv
  exact ⟨rfl, hb⟩
noncomputable def gLives (args : List Value) : Option Value := match args with | [] => some (.bool true) | _ => none
theorem gLives_ok : PureF Tryz.prog 9 gLives := ⟨fun args w => by kernel_rfl, fun args v w h hJ => by
  unfold gLives at h
  split at h <;> try (cases h; done)
  injection h with h; subst h
  exact lives_calls w hJ⟩
noncomputable def hksY : HookT := (9, pureH gLives) :: hksX
theorem hksY_ok : ∀ x ∈ hksY, HkF Tryz.prog x.1 x.2 := fun x hx => by
  rcases List.mem_cons.1 hx with rfl | hx
  · exact gLives_ok.hk
  · exact hksX_ok x hx
end Go.Ev
/- PlacesDeep behind its first two statements: the rest of the body, run at closed temporaries. -/
namespace Go.Ev
open Go Go.RowKit Go.Proofs
set_option maxRecDepth 1000000
noncomputable def pdBody : Code := match fnOf Tryz.prog 3 with | some (_, c, _) => c | none => .skip
noncomputable def pd0 : Code := match pdBody with | .seq x _ => x | _ => .skip
noncomputable def pd1 : Code := match pdBody with | .seq _ (.seq x _) => x | _ => .skip
noncomputable def pd2 : Code := match pdBody with | .seq _ (.seq _ x) => x | _ => .skip
/-- What is known of the temporaries there: whether the innermost one is a number, the result, how deep. -/
noncomputable def pdTm (b : Bool) (n : Nat) : Tr Value := ((Tr.nil.set 1 (.bool b)).set 4 (.bool false)).set 5 (.int .i64 n)
noncomputable def pdRun (hk : Hook) (b : Bool) (n : Nat) : Rs := run Tryz.prog (tabL tabs) hk 100000 (tabOf (tabL tabs) 3) 105 pd2 (pdTm b n) (startH gs)
/-- As a call's outcome: the value of the result. -/
noncomputable def pdRc (r : Rs) : Rc := match r with
  | .ok .ret tm H => match tm.get 4 with | some v => .ok v H | none => .err .fuel
  | .ok _ _ _ => .err .fuel
  | .err e => .err e
end Go.Ev
