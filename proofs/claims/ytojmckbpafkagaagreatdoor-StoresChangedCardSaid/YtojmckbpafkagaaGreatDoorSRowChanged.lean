/- StoresChanged: for any two slices of bytes the law returns true; each argument reads afterwards as it read before. No condition but the row's own: the tables of the library as the program's text lays them (the card ties them). -/
import Derived.Test.YtojmckbpafkagaaGreatDoorLiftL
import Derived.Test.YtojmckbpafkagaaGreatDoorFactChanged
import Derived.Test.YtojmckbpafkagaaGreatDoorEQ
import Derived.Test.YtojmckbpafkagaaGreatDoorE6
import Derived.Test.YtojmckbpafkagaaGreatDoorSChgW
import Derived.Test.YtojmckbpafkagaaGreatDoorSOpenB
import Derived.Test.YtojmckbpafkagaaGreatDoorCards
import Derived.Test.YtojmckbpafkagaaGreatDoorTie
import Derived.SevenTiedAt
set_option linter.unusedVariables false
set_option linter.unusedSimpArgs false
namespace Go.Proofs.YtojmckbpafkagaaGreatDoor
open Go.ChangeShapes Go.WideShapes Go.ChangeAt Go.WideMaps Go.WideElems Go.RowKit Go.Shelf
open Go.ChangeMaps (open_string)
set_option maxRecDepth 100000

theorem storesChanged_lifted (os : Os) (started : os.Started) (H : Type) (enc : TypeId × Value → H) :
    ReturnsInHanded {} Tryz.checked os 4 .any (fun w args => (Rows.storesChangedSpec.pre enc Tryz.prog Tryz.f4 [] false w args ∧ laidMetH Tryz.prog laidL w) ∧ sizedMet enc Tryz.prog Tryz.f4 (OpenSpec.ofChange Rows.storesChangedSpec) false w args)
      (Rows.storesChangedSpec.post enc Tryz.prog Tryz.f4 false true false false) := by
  refine lift_law (tb := 4) started (by kernel_rfl) Tryz.func4
    (ChangeSpec.witness_shaped (enc := enc) (C := Tryz.checked) (os := os) (X := fun w _ => laidMetH Tryz.prog laidL w) false (World.laidAll Tryz.prog os laidL) #[.slice none 0 0, .slice none 0 0] 8 (World.laidAll_os _ _ _) (door_shaped os) (by kernel_rfl) (by kernel_rfl) (by kernel_rfl) (door_met os _))
    rfl (fun l hl => ?_) (by kernel_rfl) Tryz.underlying4 (by kernel_rfl) ?_
  · match l, hl with
    | [a, b], _ => rfl
  · intro W base args ds ps hval hA _ _ hE
    rw [Tryz.params4] at hA hval
    obtain ⟨v0, v1, d0, d1, p0, p1, rfl, rfl, rfl, h0, h1⟩ := trodAll_two hA
    obtain ⟨_, _, _, rfl⟩ := okWide_slice Tryz.underlying27 (hval 0 27 v0 rfl rfl)
    obtain ⟨A, n, ca, a, e0, hBa, _, _, _⟩ := open_bts h0 rfl
    obtain ⟨_, _, _, rfl⟩ := okWide_slice Tryz.underlying27 (hval 1 27 v1 rfl rfl)
    obtain ⟨B, m, cb, b, e1, hBb, _, _, _⟩ := open_bts h1 rfl
    rw [e0, e1]
    have hJ := Go.Ev.J_of W hE
    exact chgL_any A B n m ca cb a b W hBa hBb fun W' hb => Go.Ev.lives_calls W' (hJ.below hb)

theorem storesChanged_named : Tryz.prog.funcNamed Rows.storesChangedRow.func = some 4 := by kernel_rfl
theorem storesChanged_holds : Rows.StoresChangedSaid :=
  OpenClaim.holds_of_wide 4 Tryz.f4 rfl rfl rfl rfl rfl rfl rfl ⟨rfl, rfl, rfl, rfl, rfl⟩ rfl rfl rfl rfl rfl storesChanged_named Tryz.func4 storesChanged_facts
    (of_decide_eq_true (by kernel_rfl)) (by unfold Func.isWrapper; rw [if_neg (of_decide_eq_false (by kernel_rfl))]; exact ⟨rfl, rfl⟩)
    (fun os started H enc _ => storesChanged_lifted os started H enc)

theorem storesChanged_wft : Rows.storesChangedRow.wfByText (OpenSpec.ofChange Rows.storesChangedSpec) = true := by kernel_rfl
theorem storesChanged_main : Tryz.prog.mainIs = some (true, (Rows.storesChangedCard.stood.harness.2).toList) := by kernel_rfl
theorem storesChanged_looks : true = Tryz.prog.looks [] := by kernel_rfl
theorem storesChanged_goes : false = Rows.storesChangedRow.goesBy Tryz.prog := by kernel_rfl
theorem storesChanged_card : Rows.StoresChangedCardSaid :=
  Claim7.holds_tied_plain_at .later [] [.data, .data, .data, .data, .sentinel, .sentinel, .listed, .data, .data, .pinned] true (true, Rows.storesChangedCard.stood.harness.2) true
    storesChanged_holds (fun _ h => by cases h) storesChanged_wft (fun _ h => by cases h) storesChanged_row_tie rfl ⟨rfl, rfl⟩ storesChanged_main rfl
    (fun f fn hf hfn => by
      obtain rfl : f = 4 := Option.some.inj (storesChanged_named.symm.trans hf) |>.symm
      obtain rfl : fn = Tryz.f4 := (Option.some.inj (Tryz.func4.symm.trans hfn)).symm
      exact ⟨storesChanged_looks, fun j t ht => by
        have hm : t ∈ Tryz.f4.params.toList := by simpa using Array.mem_of_getElem? ht
        have hall : (Tryz.f4.params.toList.all fun u => !Tryz.prog.wantsStandIn u) = true := by kernel_rfl
        exact (show Tryz.prog.wantsStandIn t = false by simpa using List.all_eq_true.1 hall t hm)⟩)
    storesChanged_goes
end Go.Proofs.YtojmckbpafkagaaGreatDoor
