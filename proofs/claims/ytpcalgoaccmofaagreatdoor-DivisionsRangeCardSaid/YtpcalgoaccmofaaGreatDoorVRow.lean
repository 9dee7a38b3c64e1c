/- DivisionsRange: for every input the law returns true; each argument reads afterwards as it read before. No condition but the row's own: the tables of the library as the program's text lays them (the card ties them). -/
import Derived.Test.YtpcalgoaccmofaaGreatDoorLiftL
import Derived.Test.YtpcalgoaccmofaaGreatDoorVOpen
import Derived.Test.YtpcalgoaccmofaaGreatDoorVLawA
import Derived.Test.YtpcalgoaccmofaaGreatDoorEQ
import Derived.Test.YtpcalgoaccmofaaGreatDoorEP
import Derived.Test.YtpcalgoaccmofaaGreatDoorCards
import Derived.Test.YtpcalgoaccmofaaGreatDoorTie
import Derived.SevenTiedAt
set_option linter.unusedVariables false
set_option linter.unusedSimpArgs false
namespace Go.Proofs.YtpcalgoaccmofaaGreatDoor
open Go.ChangeShapes Go.WideShapes Go.ChangeAt Go.WideMaps Go.WideElems Go.RowKit Go.Shelf
open Go.ChangeMaps (open_string)
set_option maxRecDepth 100000

theorem divisionsRange_lifted (os : Os) (started : os.Started) (H : Type) (enc : TypeId × Value → H) :
    ReturnsInHanded {} Tryz.checked os 3 .any (fun w args => (Rows.divisionsRangeSpec.pre enc Tryz.prog Tryz.f3 [] false w args ∧ laidMetH Tryz.prog laidL w) ∧ sizedMet enc Tryz.prog Tryz.f3 (OpenSpec.ofChange Rows.divisionsRangeSpec) false w args)
      (Rows.divisionsRangeSpec.post enc Tryz.prog Tryz.f3 false true false false) := by
  refine lift_law (tb := 4) started (by kernel_rfl) Tryz.func3
    (ChangeSpec.witness_shaped (enc := enc) (C := Tryz.checked) (os := os) (X := fun w _ => laidMetH Tryz.prog laidL w) false (World.laidAll Tryz.prog os laidL) #[.slice none 0 0, .agg #[.int .u8 0, .int .u8 0]] 8 (World.laidAll_os _ _ _) (door_shaped os) (by kernel_rfl) (by kernel_rfl) (by kernel_rfl) (door_met os _))
    rfl (fun l hl => ?_) (by kernel_rfl) Tryz.underlying4 (by kernel_rfl) ?_
  · match l, hl with
    | [a, b], _ => rfl
  · intro W base args ds ps hval hA _ _ hE
    rw [Tryz.params3] at hA hval
    obtain ⟨v0, v1, d0, d1, p0, p1, rfl, rfl, rfl, h0, h1⟩ := trodAll_two hA
    obtain ⟨_, _, _, rfl⟩ := okWide_slice Tryz.underlying22 (hval 0 22 v0 rfl rfl)
    obtain ⟨A, c, L, e, hL, hc⟩ := open_pairs h0 rfl
    rw [e]
    obtain ⟨⟨z0, z1⟩, rfl, hz⟩ := open_pair2 (hval 1 23 v1 rfl rfl) h1
    exact law_any A c L z0 z1 W hL hz hc (fun W2 hb => Go.Ev.lives_calls W2 ((Go.Ev.J_of W hE).below hb))

theorem divisionsRange_holds : Rows.DivisionsRangeSaid :=
  OpenClaim.holds_of_wide 3 Tryz.f3 rfl rfl rfl rfl rfl rfl rfl ⟨rfl, rfl, rfl, rfl, rfl⟩ rfl rfl rfl rfl rfl (by kernel_rfl) Tryz.func3 (by kernel_rfl)
    (of_decide_eq_true (by kernel_rfl)) (by unfold Func.isWrapper; rw [if_neg (of_decide_eq_false (by kernel_rfl))]; exact ⟨rfl, rfl⟩)
    (fun os started H enc _ => divisionsRange_lifted os started H enc)

theorem divisionsRange_card : Rows.DivisionsRangeCardSaid :=
  Claim7.holds_tied_plain_at .later [] [.data, .data, .data, .data, .sentinel, .sentinel, .listed, .data, .data, .pinned] true (true, Rows.divisionsRangeCard.stood.harness.2) true
    divisionsRange_holds (fun _ h => by cases h) (by kernel_rfl) (fun _ h => by cases h) divisionsRange_row_tie rfl ⟨rfl, rfl⟩ (by kernel_rfl) rfl
    (fun f fn hf hfn => by
      obtain rfl : f = 3 := Option.some.inj ((show Tryz.prog.funcNamed Rows.divisionsRangeRow.func = some 3 by kernel_rfl).symm.trans hf) |>.symm
      obtain rfl : fn = Tryz.f3 := (Option.some.inj (Tryz.func3.symm.trans hfn)).symm
      exact ⟨by kernel_rfl, fun j t ht => by
        have hm : t ∈ Tryz.f3.params.toList := by simpa using Array.mem_of_getElem? ht
        have hall : (Tryz.f3.params.toList.all fun u => !Tryz.prog.wantsStandIn u) = true := by kernel_rfl
        exact (show Tryz.prog.wantsStandIn t = false by simpa using List.all_eq_true.1 hall t hm)⟩)
    (by kernel_rfl)
end Go.Proofs.YtpcalgoaccmofaaGreatDoor
