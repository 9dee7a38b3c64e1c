/- WordsAll: for every input the law returns true; each argument reads afterwards as it read before. No condition but the row's own: the tables of the library as the program's text lays them (the card ties them). -/
import Derived.Test.YtphofgokcfdobaaDoorWLawAll
import Derived.Test.YtphofgokcfdobaaDoorLift
import Derived.Test.YtphofgokcfdobaaDoorCards
import Derived.Test.YtphofgokcfdobaaDoorTie
import Derived.SevenTiedAt
namespace Go.Proofs.YtphofgokcfdobaaDoor
open Go.ChangeShapes Go.WideShapes Go.ChangeAt Go.WideMaps Go.WideElems Go.RowKit Go.Shelf
open Go.ChangeMaps (open_string)
set_option maxRecDepth 100000

theorem wordsAll_lifted (os : Os) (started : os.Started) (H : Type) (enc : TypeId × Value → H) :
    ReturnsInHanded {} Tryd.checked os 8 .any (fun w args => (Rows.wordsAllSpec.pre enc Tryd.prog Tryd.f8 [] false w args ∧ laidMetH Tryd.prog laidL w) ∧ sizedMet enc Tryd.prog Tryd.f8 (OpenSpec.ofChange Rows.wordsAllSpec) false w args)
      (Rows.wordsAllSpec.post enc Tryd.prog Tryd.f8 false true false false) := by
  refine lift_law (tb := 4) started (by kernel_rfl) Tryd.func8
    (ChangeSpec.witness_shaped (enc := enc) (C := Tryd.checked) (os := os) (X := fun w _ => laidMetH Tryd.prog laidL w) false (World.doorLaid Tryd.prog 400 os) #[.int .u16 0] 8 rfl (World.shaped_of_RefB (by kernel_rfl) (by kernel_rfl)) (by kernel_rfl) (by kernel_rfl) (by kernel_rfl) (door_met os _))
    rfl (fun l hl => ?_) (by kernel_rfl) Tryd.underlying4 (by kernel_rfl) ?_
  · match l, hl with
    | [a], _ => rfl
  · intro W base args ds ps hval hA _ _ hE
    rw [Tryd.params8] at hA hval
    obtain ⟨v0, d0, rfl, rfl, h0⟩ := trodAll_one hA
    obtain ⟨n, rfl, rfl, rfl, wn⟩ := open_int Tryd.underlying22 (hval 0 22 v0 rfl rfl) h0
    obtain ⟨k, rfl, hk⟩ : ∃ k : Nat, n = k ∧ k < 65536 := by
      have := bounds_u16 wn
      exact ⟨n.toNat, by omega, by omega⟩
    exact wordsAll_any k W hE hk

theorem wordsAll_holds : Rows.WordsAllSaid :=
  OpenClaim.holds_of_wide 8 Tryd.f8 rfl rfl rfl rfl rfl rfl rfl ⟨rfl, rfl, rfl, rfl, rfl⟩ rfl rfl rfl rfl rfl (by kernel_rfl) Tryd.func8 (by kernel_rfl)
    (of_decide_eq_true (by kernel_rfl)) (by unfold Func.isWrapper; rw [if_neg (of_decide_eq_false (by kernel_rfl))]; exact ⟨rfl, rfl⟩)
    (fun os started H enc _ => wordsAll_lifted os started H enc)

theorem wordsAll_card : Rows.WordsAllCardSaid :=
  Claim7.holds_tied_plain_at .later [] [.listed, .data] true (true, Rows.wordsAllCard.stood.harness.2) false
    wordsAll_holds (fun _ h => by cases h) (by kernel_rfl) (fun _ h => by cases h) wordsAll_row_tie rfl ⟨rfl, rfl⟩ (by kernel_rfl) rfl
    (fun f fn hf hfn => by
      obtain rfl : f = 8 := Option.some.inj ((show Tryd.prog.funcNamed Rows.wordsAllRow.func = some 8 by kernel_rfl).symm.trans hf) |>.symm
      obtain rfl : fn = Tryd.f8 := (Option.some.inj (Tryd.func8.symm.trans hfn)).symm
      exact ⟨by kernel_rfl, fun j t ht => by
        have hm : t ∈ Tryd.f8.params.toList := by simpa using Array.mem_of_getElem? ht
        have hall : (Tryd.f8.params.toList.all fun u => !Tryd.prog.wantsStandIn u) = true := by kernel_rfl
        exact (show Tryd.prog.wantsStandIn t = false by simpa using List.all_eq_true.1 hall t hm)⟩)
    (by kernel_rfl)
end Go.Proofs.YtphofgokcfdobaaDoor
