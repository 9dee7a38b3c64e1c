/- StoresPut: for any storage, place and bytes the law returns true; each argument reads afterwards as it read before. No condition but the row's own: the tables of the library as the program's text lays them (the card ties them). -/
import Derived.Test.YtojmckbpafkagaaGreatDoorLiftL
import Derived.Test.YtojmckbpafkagaaGreatDoorFactPut
import Derived.Test.YtojmckbpafkagaaGreatDoorEQ
import Derived.Test.YtojmckbpafkagaaGreatDoorE6
import Derived.Test.YtojmckbpafkagaaGreatDoorSPutZ
import Derived.Test.YtojmckbpafkagaaGreatDoorSOpenB
import Derived.Test.YtojmckbpafkagaaGreatDoorCards
import Derived.Test.YtojmckbpafkagaaGreatDoorTie
import Derived.SevenTiedAt
set_option linter.unusedVariables false
set_option linter.unusedSimpArgs false
namespace Go.Proofs.YtojmckbpafkagaaGreatDoor
open Go.ChangeShapes Go.WideShapes Go.ChangeAt Go.WideMaps Go.WideElems Go.RowKit Go.Shelf
open Go.ChangeMaps (open_string)
set_option maxRecDepth 100000

theorem storesPut_lifted (os : Os) (started : os.Started) (H : Type) (enc : TypeId × Value → H) :
    ReturnsInHanded {} Tryz.checked os 5 .any (fun w args => (Rows.storesPutSpec.pre enc Tryz.prog Tryz.f5 [] false w args ∧ laidMetH Tryz.prog laidL w) ∧ sizedMet enc Tryz.prog Tryz.f5 (OpenSpec.ofChange Rows.storesPutSpec) false w args)
      (Rows.storesPutSpec.post enc Tryz.prog Tryz.f5 false true false false) := by
  refine lift_law (tb := 4) started (by kernel_rfl) Tryz.func5
    (ChangeSpec.witness_shaped (enc := enc) (C := Tryz.checked) (os := os) (X := fun w _ => laidMetH Tryz.prog laidL w) false (World.laidAll Tryz.prog os laidL) #[.slice none 0 0, .agg #[.int .i64 0, .int .i64 0], .slice none 0 0] 8 (World.laidAll_os _ _ _) (door_shaped os) (by kernel_rfl) (by kernel_rfl) (by kernel_rfl) (door_met os _))
    rfl (fun l hl => ?_) (by kernel_rfl) Tryz.underlying4 (by kernel_rfl) ?_
  · match l, hl with
    | [a, b, c], _ => rfl
  · intro W base args ds ps hval hA _ _ hE
    rw [Tryz.params5] at hA hval
    obtain ⟨v0, v1, v2, d0, d1, d2, p0, p1, p2, rfl, rfl, rfl, h0, h1, h2⟩ := trodAll_three hA
    obtain ⟨_, _, _, rfl⟩ := okWide_slice Tryz.underlying27 (hval 0 27 v0 rfl rfl)
    obtain ⟨A, n, ca, a, e0, hBa, hxa, hna, hca⟩ := open_bts h0 rfl
    obtain ⟨z0, z1, rfl, hz0, hz1⟩ := open_place (hval 1 23 v1 rfl rfl) h1
    obtain ⟨_, _, _, rfl⟩ := okWide_slice Tryz.underlying27 (hval 2 27 v2 rfl rfl)
    obtain ⟨B, m, cb, b, e2, hBb, hxb, hnb, hcb⟩ := open_bts h2 rfl
    rw [e0, e2]
    have hJ := Go.Ev.J_of W hE
    exact putL_any A B n m ca cb a b z0 z1 W hBa hxa hBb hxb hca fun W' hb => Go.Ev.lives_calls W' (hJ.below hb)

theorem storesPut_named : Tryz.prog.funcNamed Rows.storesPutRow.func = some 5 := by kernel_rfl
theorem storesPut_holds : Rows.StoresPutSaid :=
  OpenClaim.holds_of_wide 5 Tryz.f5 rfl rfl rfl rfl rfl rfl rfl ⟨rfl, rfl, rfl, rfl, rfl⟩ rfl rfl rfl rfl rfl storesPut_named Tryz.func5 storesPut_facts
    (of_decide_eq_true (by kernel_rfl)) (by unfold Func.isWrapper; rw [if_neg (of_decide_eq_false (by kernel_rfl))]; exact ⟨rfl, rfl⟩)
    (fun os started H enc _ => storesPut_lifted os started H enc)

theorem storesPut_wft : Rows.storesPutRow.wfByText (OpenSpec.ofChange Rows.storesPutSpec) = true := by kernel_rfl
theorem storesPut_main : Tryz.prog.mainIs = some (true, (Rows.storesPutCard.stood.harness.2).toList) := by kernel_rfl
theorem storesPut_looks : true = Tryz.prog.looks [] := by kernel_rfl
theorem storesPut_goes : false = Rows.storesPutRow.goesBy Tryz.prog := by kernel_rfl
theorem storesPut_card : Rows.StoresPutCardSaid :=
  Claim7.holds_tied_plain_at .later [] [.data, .data, .data, .data, .sentinel, .sentinel, .listed, .data, .data, .pinned] true (true, Rows.storesPutCard.stood.harness.2) true
    storesPut_holds (fun _ h => by cases h) storesPut_wft (fun _ h => by cases h) storesPut_row_tie rfl ⟨rfl, rfl⟩ storesPut_main rfl
    (fun f fn hf hfn => by
      obtain rfl : f = 5 := Option.some.inj (storesPut_named.symm.trans hf) |>.symm
      obtain rfl : fn = Tryz.f5 := (Option.some.inj (Tryz.func5.symm.trans hfn)).symm
      exact ⟨storesPut_looks, fun j t ht => by
        have hm : t ∈ Tryz.f5.params.toList := by simpa using Array.mem_of_getElem? ht
        have hall : (Tryz.f5.params.toList.all fun u => !Tryz.prog.wantsStandIn u) = true := by kernel_rfl
        exact (show Tryz.prog.wantsStandIn t = false by simpa using List.all_eq_true.1 hall t hm)⟩)
    storesPut_goes
end Go.Proofs.YtojmckbpafkagaaGreatDoor
