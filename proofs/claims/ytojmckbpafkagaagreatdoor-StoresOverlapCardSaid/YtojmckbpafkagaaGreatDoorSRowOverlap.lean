/- StoresOverlap: for any two places the law returns true; each argument reads afterwards as it read before. No condition but the row's own: the tables of the library as the program's text lays them (the card ties them). -/
import Derived.Test.YtojmckbpafkagaaGreatDoorLiftL
import Derived.Test.YtojmckbpafkagaaGreatDoorFactOverlap
import Derived.Test.YtojmckbpafkagaaGreatDoorEQ
import Derived.Test.YtojmckbpafkagaaGreatDoorE6
import Derived.Test.YtojmckbpafkagaaGreatDoorSOvW
import Derived.Test.YtojmckbpafkagaaGreatDoorSOpen
import Derived.Test.YtojmckbpafkagaaGreatDoorCards
import Derived.Test.YtojmckbpafkagaaGreatDoorTie
import Derived.SevenTiedAt
set_option linter.unusedVariables false
set_option linter.unusedSimpArgs false
namespace Go.Proofs.YtojmckbpafkagaaGreatDoor
open Go.ChangeShapes Go.WideShapes Go.ChangeAt Go.WideMaps Go.WideElems Go.RowKit Go.Shelf
open Go.ChangeMaps (open_string)
set_option maxRecDepth 100000

theorem storesOverlap_lifted (os : Os) (started : os.Started) (H : Type) (enc : TypeId × Value → H) :
    ReturnsInHanded {} Tryz.checked os 3 .any (fun w args => (Rows.storesOverlapSpec.pre enc Tryz.prog Tryz.f3 [] false w args ∧ laidMetH Tryz.prog laidL w) ∧ sizedMet enc Tryz.prog Tryz.f3 (OpenSpec.ofChange Rows.storesOverlapSpec) false w args)
      (Rows.storesOverlapSpec.post enc Tryz.prog Tryz.f3 false true false false) := by
  refine lift_law (tb := 4) started (by kernel_rfl) Tryz.func3
    (ChangeSpec.witness_shaped (enc := enc) (C := Tryz.checked) (os := os) (X := fun w _ => laidMetH Tryz.prog laidL w) false (World.laidAll Tryz.prog os laidL) #[.agg #[.int .i64 0, .int .i64 0], .agg #[.int .i64 0, .int .i64 0]] 8 (World.laidAll_os _ _ _) (door_shaped os) (by kernel_rfl) (by kernel_rfl) (by kernel_rfl) (door_met os _))
    rfl (fun l hl => ?_) (by kernel_rfl) Tryz.underlying4 (by kernel_rfl) ?_
  · match l, hl with
    | [a, b], _ => rfl
  · intro W base args ds ps hval hA _ _ hE
    rw [Tryz.params3] at hA hval
    obtain ⟨v0, v1, d0, d1, p0, p1, rfl, rfl, rfl, h0, h1⟩ := trodAll_two hA
    obtain ⟨a0, a1, rfl, ha0, ha1⟩ := open_place (hval 0 23 v0 rfl rfl) h0
    obtain ⟨b0, b1, rfl, hb0, hb1⟩ := open_place (hval 1 23 v1 rfl rfl) h1
    have hJ := Go.Ev.J_of W hE
    exact ovL_any a0 a1 b0 b1 ha0 ha1 hb0 hb1 W fun W' hb => Go.Ev.lives_calls W' (hJ.below hb)

theorem storesOverlap_named : Tryz.prog.funcNamed Rows.storesOverlapRow.func = some 3 := by kernel_rfl
theorem storesOverlap_holds : Rows.StoresOverlapSaid :=
  OpenClaim.holds_of_wide 3 Tryz.f3 rfl rfl rfl rfl rfl rfl rfl ⟨rfl, rfl, rfl, rfl, rfl⟩ rfl rfl rfl rfl rfl storesOverlap_named Tryz.func3 storesOverlap_facts
    (of_decide_eq_true (by kernel_rfl)) (by unfold Func.isWrapper; rw [if_neg (of_decide_eq_false (by kernel_rfl))]; exact ⟨rfl, rfl⟩)
    (fun os started H enc _ => storesOverlap_lifted os started H enc)

theorem storesOverlap_wft : Rows.storesOverlapRow.wfByText (OpenSpec.ofChange Rows.storesOverlapSpec) = true := by kernel_rfl
theorem storesOverlap_main : Tryz.prog.mainIs = some (true, (Rows.storesOverlapCard.stood.harness.2).toList) := by kernel_rfl
theorem storesOverlap_looks : true = Tryz.prog.looks [] := by kernel_rfl
theorem storesOverlap_goes : false = Rows.storesOverlapRow.goesBy Tryz.prog := by kernel_rfl
theorem storesOverlap_card : Rows.StoresOverlapCardSaid :=
  Claim7.holds_tied_plain_at .later [] [.data, .data, .data, .data, .sentinel, .sentinel, .listed, .data, .data, .pinned] true (true, Rows.storesOverlapCard.stood.harness.2) true
    storesOverlap_holds (fun _ h => by cases h) storesOverlap_wft (fun _ h => by cases h) storesOverlap_row_tie rfl ⟨rfl, rfl⟩ storesOverlap_main rfl
    (fun f fn hf hfn => by
      obtain rfl : f = 3 := Option.some.inj (storesOverlap_named.symm.trans hf) |>.symm
      obtain rfl : fn = Tryz.f3 := (Option.some.inj (Tryz.func3.symm.trans hfn)).symm
      exact ⟨storesOverlap_looks, fun j t ht => by
        have hm : t ∈ Tryz.f3.params.toList := by simpa using Array.mem_of_getElem? ht
        have hall : (Tryz.f3.params.toList.all fun u => !Tryz.prog.wantsStandIn u) = true := by kernel_rfl
        exact (show Tryz.prog.wantsStandIn t = false by simpa using List.all_eq_true.1 hall t hm)⟩)
    storesOverlap_goes
end Go.Proofs.YtojmckbpafkagaaGreatDoor
