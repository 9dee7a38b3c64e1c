/- PlacesDeep: for every input the law returns true; each argument reads afterwards as it read before. No condition but the row's own: the tables of the library as the program's text lays them (the card ties them). -/
import Derived.Test.YtihonmpkfhchbaaGreatDoorLiftL
import Derived.Test.YtihonmpkfhchbaaGreatDoorQFact
import Derived.Test.YtihonmpkfhchbaaGreatDoorEQ
import Derived.Test.YtihonmpkfhchbaaGreatDoorER
import Derived.Test.YtihonmpkfhchbaaGreatDoorCards
import Derived.Test.YtihonmpkfhchbaaGreatDoorTie
import Derived.SevenTiedAt
set_option linter.unusedVariables false
set_option linter.unusedSimpArgs false
namespace Go.Proofs.YtihonmpkfhchbaaGreatDoor
open Go.ChangeShapes Go.WideShapes Go.ChangeAt Go.WideMaps Go.WideElems Go.RowKit Go.Shelf
open Go.ChangeMaps (open_string)
set_option maxRecDepth 100000

theorem placesDeep_lifted (os : Os) (started : os.Started) (H : Type) (enc : TypeId × Value → H) :
    ReturnsInHanded {} Tryz.checked os 3 .any (fun w args => (Rows.placesDeepSpec.pre enc Tryz.prog Tryz.f3 [] false w args ∧ laidMetH Tryz.prog laidL w) ∧ sizedMet enc Tryz.prog Tryz.f3 (OpenSpec.ofChange Rows.placesDeepSpec) false w args)
      (Rows.placesDeepSpec.post enc Tryz.prog Tryz.f3 false true false false) := by
  refine lift_law (tb := 4) started (by kernel_rfl) Tryz.func3
    (ChangeSpec.witness_shaped (enc := enc) (C := Tryz.checked) (os := os) (X := fun w _ => laidMetH Tryz.prog laidL w) false (World.laidAll Tryz.prog os laidL) #[.int .u8 0, .bool false] 8 (World.laidAll_os _ _ _) (door_shaped os) (by kernel_rfl) (by kernel_rfl) (by kernel_rfl) (door_met os _))
    rfl (fun l hl => ?_) (by kernel_rfl) Tryz.underlying4 (by kernel_rfl) ?_
  · match l, hl with
    | [a, b], _ => rfl
  · intro W base args ds ps hval hA _ _ hE
    rw [Tryz.params3] at hA hval
    obtain ⟨v0, v1, d0, d1, p0, p1, rfl, rfl, rfl, h0, h1⟩ := trodAll_two hA
    obtain ⟨n, rfl, rfl, rfl, wn⟩ := open_int Tryz.underlying5 (hval 0 5 v0 rfl rfl) h0
    obtain ⟨b, rfl, rfl, rfl⟩ := open_bool Tryz.underlying4 (hval 1 4 v1 rfl rfl) h1
    obtain ⟨k, rfl, hk⟩ : ∃ k : Nat, n = k ∧ k < 256 := by
      have := bounds_u8 wn
      exact ⟨n.toNat, by omega, by omega⟩
    exact Go.Ev.deep_any k hk b W (Go.Ev.J_of W hE)

theorem placesDeep_named : Tryz.prog.funcNamed Rows.placesDeepRow.func = some 3 := by kernel_rfl
theorem placesDeep_holds : Rows.PlacesDeepSaid :=
  OpenClaim.holds_of_wide 3 Tryz.f3 rfl rfl rfl rfl rfl rfl rfl ⟨rfl, rfl, rfl, rfl, rfl⟩ rfl rfl rfl rfl rfl placesDeep_named Tryz.func3 placesDeep_facts
    (of_decide_eq_true (by kernel_rfl)) (by unfold Func.isWrapper; rw [if_neg (of_decide_eq_false (by kernel_rfl))]; exact ⟨rfl, rfl⟩)
    (fun os started H enc _ => placesDeep_lifted os started H enc)

theorem placesDeep_wft : Rows.placesDeepRow.wfByText (OpenSpec.ofChange Rows.placesDeepSpec) = true := by kernel_rfl
theorem placesDeep_main : Tryz.prog.mainIs = some (true, (Rows.placesDeepCard.stood.harness.2).toList) := by kernel_rfl
theorem placesDeep_looks : true = Tryz.prog.looks [] := by kernel_rfl
theorem placesDeep_goes : false = Rows.placesDeepRow.goesBy Tryz.prog := by kernel_rfl
theorem placesDeep_card : Rows.PlacesDeepCardSaid :=
  Claim7.holds_tied_plain_at .later [] [.data, .data, .data, .data, .sentinel, .sentinel, .listed, .data, .data, .pinned] true (true, Rows.placesDeepCard.stood.harness.2) true
    placesDeep_holds (fun _ h => by cases h) placesDeep_wft (fun _ h => by cases h) placesDeep_row_tie rfl ⟨rfl, rfl⟩ placesDeep_main rfl
    (fun f fn hf hfn => by
      obtain rfl : f = 3 := Option.some.inj (placesDeep_named.symm.trans hf) |>.symm
      obtain rfl : fn = Tryz.f3 := (Option.some.inj (Tryz.func3.symm.trans hfn)).symm
      exact ⟨placesDeep_looks, fun j t ht => by
        have hm : t ∈ Tryz.f3.params.toList := by simpa using Array.mem_of_getElem? ht
        have hall : (Tryz.f3.params.toList.all fun u => !Tryz.prog.wantsStandIn u) = true := by kernel_rfl
        exact (show Tryz.prog.wantsStandIn t = false by simpa using List.all_eq_true.1 hall t hm)⟩)
    placesDeep_goes
end Go.Proofs.YtihonmpkfhchbaaGreatDoor
