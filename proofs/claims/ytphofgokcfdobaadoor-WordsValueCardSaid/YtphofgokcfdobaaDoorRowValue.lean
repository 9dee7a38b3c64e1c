/- WordsValue: for every input the law returns true; each argument reads afterwards as it read before. No condition but the row's own: the tables of the library as the program's text lays them (the card ties them). -/
import Derived.Test.YtphofgokcfdobaaDoorWLawVal
import Derived.Test.YtphofgokcfdobaaDoorLift
import Derived.Test.YtphofgokcfdobaaDoorCards
import Derived.Test.YtphofgokcfdobaaDoorTie
import Derived.SevenTiedAt
namespace Go.Proofs.YtphofgokcfdobaaDoor
open Go.ChangeShapes Go.WideShapes Go.ChangeAt Go.WideMaps Go.WideElems Go.RowKit Go.Shelf
open Go.ChangeMaps (open_string)
set_option maxRecDepth 100000

theorem wordsValue_lifted (os : Os) (started : os.Started) (H : Type) (enc : TypeId × Value → H) :
    ReturnsInHanded {} Tryd.checked os 7 .any (fun w args => (Rows.wordsValueSpec.pre enc Tryd.prog Tryd.f7 [] false w args ∧ laidMetH Tryd.prog laidL w) ∧ sizedMet enc Tryd.prog Tryd.f7 (OpenSpec.ofChange Rows.wordsValueSpec) false w args)
      (Rows.wordsValueSpec.post enc Tryd.prog Tryd.f7 false true false false) := by
  refine lift_law (tb := 4) started (by kernel_rfl) Tryd.func7
    (ChangeSpec.witness_shaped (enc := enc) (C := Tryd.checked) (os := os) (X := fun w _ => laidMetH Tryd.prog laidL w) false (World.doorLaid Tryd.prog 400 os) #[.string ByteArray.empty] 8 rfl (World.shaped_of_RefB (by kernel_rfl) (by kernel_rfl)) (by kernel_rfl) (by kernel_rfl) (by kernel_rfl) (door_met os _))
    rfl (fun l hl => ?_) (by kernel_rfl) Tryd.underlying4 (by kernel_rfl) ?_
  · match l, hl with
    | [a], _ => rfl
  · intro W base args ds ps hval hA _ _ hE
    rw [Tryd.params7] at hA hval
    obtain ⟨v0, d0, rfl, rfl, h0⟩ := trodAll_one hA
    obtain ⟨s, rfl, rfl, rfl, hs⟩ := open_string Tryd.underlying9 (hval 0 9 v0 rfl rfl) h0
    by_cases h : (s.size : Int) ≤ 40
    · exact wordsValue_small s W hE h
    · exact wordsValue_big s W hE (by omega)

theorem wordsValue_holds : Rows.WordsValueSaid :=
  OpenClaim.holds_of_wide 7 Tryd.f7 rfl rfl rfl rfl rfl rfl rfl ⟨rfl, rfl, rfl, rfl, rfl⟩ rfl rfl rfl rfl rfl (by kernel_rfl) Tryd.func7 (by kernel_rfl)
    (of_decide_eq_true (by kernel_rfl)) (by unfold Func.isWrapper; rw [if_neg (of_decide_eq_false (by kernel_rfl))]; exact ⟨rfl, rfl⟩)
    (fun os started H enc _ => wordsValue_lifted os started H enc)

theorem wordsValue_card : Rows.WordsValueCardSaid :=
  Claim7.holds_tied_plain_at .later [] [.listed, .data] true (true, Rows.wordsValueCard.stood.harness.2) false
    wordsValue_holds (fun _ h => by cases h) (by kernel_rfl) (fun _ h => by cases h) wordsValue_row_tie rfl ⟨rfl, rfl⟩ (by kernel_rfl) rfl
    (fun f fn hf hfn => by
      obtain rfl : f = 7 := Option.some.inj ((show Tryd.prog.funcNamed Rows.wordsValueRow.func = some 7 by kernel_rfl).symm.trans hf) |>.symm
      obtain rfl : fn = Tryd.f7 := (Option.some.inj (Tryd.func7.symm.trans hfn)).symm
      exact ⟨by kernel_rfl, fun j t ht => by
        have hm : t ∈ Tryd.f7.params.toList := by simpa using Array.mem_of_getElem? ht
        have hall : (Tryd.f7.params.toList.all fun u => !Tryd.prog.wantsStandIn u) = true := by kernel_rfl
        exact (show Tryd.prog.wantsStandIn t = false by simpa using List.all_eq_true.1 hall t hm)⟩)
    (by kernel_rfl)
end Go.Proofs.YtphofgokcfdobaaDoor
