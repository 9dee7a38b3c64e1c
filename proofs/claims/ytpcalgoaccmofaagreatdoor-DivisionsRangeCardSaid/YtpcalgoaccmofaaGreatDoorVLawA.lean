/- DivisionsRange: the law answers true at any list. -/
import Derived.Test.YtpcalgoaccmofaaGreatDoorVLaw
set_option linter.unusedVariables false
set_option linter.unusedSimpArgs false
namespace Go.Proofs.YtpcalgoaccmofaaGreatDoor
open Go.RowKit Go.Lib
set_option maxRecDepth 100000
set_option maxHeartbeats 1000000 in
theorem law_any (A : Option Addr) (ca : Nat) (ls : List (Nat × Nat)) (z0 z1 : Nat) (w : World) (hb : ∀ p ∈ ls, p.1 < 256 ∧ p.2 < 256) (hz : z0 < 256 ∧ z1 < 256)
    (hA : 0 < ls.length → ∃ g o, A = some ⟨g, o, none⟩ ∧ g < w.heap.size ∧ ∀ j (h : j < ls.length), w.cell? ⟨g, o + j * 2, none⟩ = some (.int .u8 (ls[j].1 : Nat)) ∧ w.cell? ⟨g, o + j * 2 + 1, none⟩ = some (.int .u8 (ls[j].2 : Nat)))
    (hlv : ∀ W, Below w.heap.size w W → Calls Tryz.prog 4 #[] W fun e w' => e = .returned (.bool true) ∧ Below W.heap.size W w') :
    Calls Tryz.prog 3 #[.slice A ls.length ca, .agg #[.int .u8 (z0 : Nat), .int .u8 (z1 : Nat)]] w fun e w' => e = .returned (.bool true) ∧ Below w.heap.size w w' := by
  by_cases hl : ls.length ≤ 20
  · exact law_small A ca ls z0 z1 w hb hz hA hl hlv
  · have h20 : (20 : Int) < (ls.length : Nat) := by omega
    have HLV := Lib.hid hlv
    clear hl hlv hb hz hA
    go_enter Tryz.func3, Tryz.ntmps3
    go_wp2_with fail
    have hbb : Below w.heap.size w (w.alloc (.cells #[.int .u8 (z0 : Nat), .int .u8 (z1 : Nat)] 23)) := (Below.refl w.heap.size w).alloc (Nat.le_refl _) _
    refine (HLV.out _ hbb).mono ?_
    rintro e W7 ⟨rfl, hb7⟩
    have HB7 := Lib.hid (hbb.trans (hb7.mono hbb.size))
    go_wp2_with fail
    go_ret
    exact ⟨rfl, HB7.out⟩
end Go.Proofs.YtpcalgoaccmofaaGreatDoor
