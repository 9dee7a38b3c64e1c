/- divisions.Range, all cases: what it returns for any paragraphs whose tokens are nil, any name and any section. -/
import Derived.Test.YtpcalgoaccmofaaGreatDoorVRgA
import Derived.Test.YtpcalgoaccmofaaGreatDoorVRgB
import Derived.Test.YtpcalgoaccmofaaGreatDoorVRgC
set_option linter.unusedVariables false
set_option linter.unusedSimpArgs false
namespace Go.Proofs.YtpcalgoaccmofaaGreatDoor
open Go.RowKit
set_option maxRecDepth 100000
theorem range_any (xs : List (VB × VB)) (A : Option Addr) (c : Nat) (n s : VB) (w : World) (hP : PgAt w A xs) (hl : xs.length ≤ 1000) :
    Calls Tryz.prog 5 #[pgV A xs.length c, .string ⟨n.toArray⟩, .string ⟨s.toArray⟩] w fun e w' =>
      e = .returned (.tuple #[.int .i64 (rgOut (VR.run (rg xs n s) xs xs.length)).1, .int .i64 (rgOut (VR.run (rg xs n s) xs xs.length)).2.1, .int .i64 (rgOut (VR.run (rg xs n s) xs xs.length)).2.2]) ∧ Below w.heap.size w w' := by
  by_cases hn : n = []
  · subst hn
    by_cases hs : s = []
    · subst hs; exact rangeA1 xs A c w hP hl
    · exact rangeA2 xs A c s w hP hs hl
  · by_cases hs : s = []
    · subst hs; exact rangeC xs A c n w hP hn hl
    · exact rangeB xs A c n s w hP hn hs hl
end Go.Proofs.YtpcalgoaccmofaaGreatDoor
