import Derived.Test.YtihonmpkfhchbaaGreatDoorEW
import Derived.Test.YtihonmpkfhchbaaGreatDoorD028
import Derived.Test.YtihonmpkfhchbaaGreatDoorD029
import Derived.Test.YtihonmpkfhchbaaGreatDoorD030
import Derived.Test.YtihonmpkfhchbaaGreatDoorD031
import Derived.Test.YtihonmpkfhchbaaGreatDoorD032
import Derived.Test.YtihonmpkfhchbaaGreatDoorD033
import Derived.Test.YtihonmpkfhchbaaGreatDoorD034
import Derived.Test.YtihonmpkfhchbaaGreatDoorD035
import Derived.Test.YtihonmpkfhchbaaGreatDoorD128
import Derived.Test.YtihonmpkfhchbaaGreatDoorD129
import Derived.Test.YtihonmpkfhchbaaGreatDoorD130
import Derived.Test.YtihonmpkfhchbaaGreatDoorD131
import Derived.Test.YtihonmpkfhchbaaGreatDoorD132
import Derived.Test.YtihonmpkfhchbaaGreatDoorD133
import Derived.Test.YtihonmpkfhchbaaGreatDoorD134
import Derived.Test.YtihonmpkfhchbaaGreatDoorD135
/- PlacesDeep: for every depth, with a number or a name innermost: the law returns true. -/
namespace Go.Ev
open Go Go.RowKit Go.Proofs
set_option maxRecDepth 1000000
theorem deep_any (d : Nat) (hd : d < 256) (b : Bool) (w : World) (hJ : J w) :
    Calls Tryz.prog 3 #[.int .u8 d, .bool b] w (fun e w' => e = .returned (.bool true) ∧ Below w.heap.size w w') := by
  have hk : d % 8 < 8 := Nat.mod_lt _ (by decide)
  cases b with
  | false =>
    rcases (show d % 8 = 0 ∨ d % 8 = 1 ∨ d % 8 = 2 ∨ d % 8 = 3 ∨ d % 8 = 4 ∨ d % 8 = 5 ∨ d % 8 = 6 ∨ d % 8 = 7 by omega) with h | h | h | h | h | h | h | h
    · exact deep_from d hd false hkst0_28_ok (by rw [h]; exact pdt0_28) w hJ
    · exact deep_from d hd false hkst0_29_ok (by rw [h]; exact pdt0_29) w hJ
    · exact deep_from d hd false hkst0_30_ok (by rw [h]; exact pdt0_30) w hJ
    · exact deep_from d hd false hkst0_31_ok (by rw [h]; exact pdt0_31) w hJ
    · exact deep_from d hd false hkst0_32_ok (by rw [h]; exact pdt0_32) w hJ
    · exact deep_from d hd false hkst0_33_ok (by rw [h]; exact pdt0_33) w hJ
    · exact deep_from d hd false hkst0_34_ok (by rw [h]; exact pdt0_34) w hJ
    · exact deep_from d hd false hkst0_35_ok (by rw [h]; exact pdt0_35) w hJ
  | true =>
    rcases (show d % 8 = 0 ∨ d % 8 = 1 ∨ d % 8 = 2 ∨ d % 8 = 3 ∨ d % 8 = 4 ∨ d % 8 = 5 ∨ d % 8 = 6 ∨ d % 8 = 7 by omega) with h | h | h | h | h | h | h | h
    · exact deep_from d hd true hkst1_28_ok (by rw [h]; exact pdt1_28) w hJ
    · exact deep_from d hd true hkst1_29_ok (by rw [h]; exact pdt1_29) w hJ
    · exact deep_from d hd true hkst1_30_ok (by rw [h]; exact pdt1_30) w hJ
    · exact deep_from d hd true hkst1_31_ok (by rw [h]; exact pdt1_31) w hJ
    · exact deep_from d hd true hkst1_32_ok (by rw [h]; exact pdt1_32) w hJ
    · exact deep_from d hd true hkst1_33_ok (by rw [h]; exact pdt1_33) w hJ
    · exact deep_from d hd true hkst1_34_ok (by rw [h]; exact pdt1_34) w hJ
    · exact deep_from d hd true hkst1_35_ok (by rw [h]; exact pdt1_35) w hJ
end Go.Ev
