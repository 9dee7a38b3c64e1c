/- WordsOf: for every text and every number the law returns true; each argument reads afterwards as it read before. No condition but the row's own: the two tables of the library as the program's text lays them (the card ties them). -/
import Derived.Test.YtphofgokcfdobaaDoorWLawOf
import Derived.Test.YtphofgokcfdobaaDoorLift
import Derived.Test.YtphofgokcfdobaaDoorCards
import Derived.Test.YtphofgokcfdobaaDoorTie
import Derived.SevenTiedAt
namespace Go.Proofs.YtphofgokcfdobaaDoor
open Go.ChangeShapes Go.WideShapes Go.ChangeAt Go.WideMaps Go.WideElems Go.RowKit Go.Shelf
open Go.ChangeMaps (open_string)
set_option maxRecDepth 100000

theorem wordsOf_lifted (os : Os) (started : os.Started) (H : Type) (enc : TypeId × Value → H) :
    ReturnsInHanded {} Tryd.checked os 3 .any (fun w args => (Rows.wordsOfSpec.pre enc Tryd.prog Tryd.f3 [] false w args ∧ laidMetH Tryd.prog laidL w) ∧ sizedMet enc Tryd.prog Tryd.f3 (OpenSpec.ofChange Rows.wordsOfSpec) false w args)
      (Rows.wordsOfSpec.post enc Tryd.prog Tryd.f3 false true false false) := by
  refine lift_law (tb := 4) started #[] (by kernel_rfl) Tryd.func3
    (ChangeSpec.witness_shaped (enc := enc) (C := Tryd.checked) (os := os) (X := fun w _ => laidMetH Tryd.prog laidL w) false (World.doorLaid Tryd.prog 400 os) #[.string ByteArray.empty, .int .u16 0] 8 rfl (World.shaped_of_RefB (by kernel_rfl) (by kernel_rfl)) (by kernel_rfl) (by kernel_rfl) (by kernel_rfl) (door_met os _))
    rfl (fun l hl => ?_) (by kernel_rfl) Tryd.underlying4 (by kernel_rfl) ?_
  · match l, hl with
    | [a, b], _ => rfl
  · intro W base args ds ps hval hA _ _ hE
    rw [Tryd.params3] at hA hval
    obtain ⟨v0, v1, d0, d1, p0, p1, rfl, rfl, rfl, h0, h1⟩ := trodAll_two hA
    obtain ⟨s, rfl, rfl, rfl, hs⟩ := open_string Tryd.underlying9 (hval 0 9 v0 rfl rfl) h0
    obtain ⟨n, rfl, rfl, rfl, wn⟩ := open_int Tryd.underlying22 (hval 1 22 v1 rfl rfl) h1
    obtain ⟨k, rfl, hk⟩ : ∃ k : Nat, n = k ∧ k < 65536 := by
      have := bounds_u16 wn
      exact ⟨n.toNat, by omega, by omega⟩
    by_cases h : (s.size : Int) ≤ 60
    · exact wordsOf_small s k W hE h hk
    · exact wordsOf_big s k W hE (by omega)

theorem wordsOf_holds : Rows.WordsOfSaid :=
  OpenClaim.holds_of_wide 3 Tryd.f3 rfl rfl rfl rfl rfl rfl rfl ⟨rfl, rfl, rfl, rfl, rfl⟩ rfl rfl rfl rfl rfl (by kernel_rfl) Tryd.func3 (by kernel_rfl)
    (of_decide_eq_true (by kernel_rfl)) (by unfold Func.isWrapper; rw [if_neg (of_decide_eq_false (by kernel_rfl))]; exact ⟨rfl, rfl⟩)
    (fun os started H enc _ => wordsOf_lifted os started H enc)

theorem wordsOf_card : Rows.WordsOfCardSaid :=
  Claim7.holds_tied_plain_at .later [] [.listed, .data] true (true, Rows.wordsOfCard.stood.harness.2) false
    wordsOf_holds (fun _ h => by cases h) (by kernel_rfl) (fun _ h => by cases h) wordsOf_row_tie rfl ⟨rfl, rfl⟩ (by kernel_rfl) rfl
    (fun f fn hf hfn => by
      obtain rfl : f = 3 := Option.some.inj ((show Tryd.prog.funcNamed Rows.wordsOfRow.func = some 3 by kernel_rfl).symm.trans hf) |>.symm
      obtain rfl : fn = Tryd.f3 := (Option.some.inj (Tryd.func3.symm.trans hfn)).symm
      exact ⟨by kernel_rfl, fun j t ht => by
        have hm : t ∈ Tryd.f3.params.toList := by simpa using Array.mem_of_getElem? ht
        have hall : (Tryd.f3.params.toList.all fun u => !Tryd.prog.wantsStandIn u) = true := by kernel_rfl
        exact (show Tryd.prog.wantsStandIn t = false by simpa using List.all_eq_true.1 hall t hm)⟩)
    (by kernel_rfl)
end Go.Proofs.YtphofgokcfdobaaDoor
