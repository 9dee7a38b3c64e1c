/- What the library's variables hold, and the index of a word among the fields of a list. -/
import Derived.Test.YtphofgokcfdobaaDoorWA
import Derived.Test.YtphofgokcfdobaaDoorShelf
namespace Go.Proofs.YtphofgokcfdobaaDoor
open Go.RowKit Go.Shelf
set_option maxRecDepth 100000

theorem tabIs_below {n : String} {g : Nat} {k : IntKind} {zs : List Int} {w w' : World} (hg : Tryd.prog.globalNamed n = some g) (h : Lib.TabIs Tryd.prog w n k zs) (hb : Below w.heap.size w w') : Lib.TabIs Tryd.prog w' n k zs := by
  unfold Lib.TabIs at *
  rcases Nat.lt_or_ge g w.heap.size with h' | h'
  · exact var?_below hb hg h' h
  · simp [World.var?, hg, Array.getElem?_eq_none h'] at h

/-- The library's variables as their initialisers lay them. -/
def Env (w : World) : Prop := Lib.TabIs Tryd.prog w "strings.asciiSpace" .u8 Lib.asciiSpaceTab ∧ Lib.WhiteTab 1 w ∧ ∃ m : Int, w.cell? ⟨2, 0, none⟩ = some (.int .i64 m)
theorem Env.below {w w' : World} (h : Env w) (hb : Below w.heap.size w w') : Env w' :=
  ⟨tabIs_below (g := 0) (by kernel_rfl) h.1 hb, WhiteTab_below h.2.1 hb, h.2.2.elim fun m hm => ⟨m, (hb.cell (cell_lt hm)).trans hm⟩⟩

def flds (s : ByteArray) : List (List UInt8) := Lib.fieldsD s.data.toList

theorem fields_any (s : ByteArray) (w : World) (hs : s.size < 4294967281) (hE : Env w) :
    Calls Tryd.prog 10 #[.string s] w fun e w' => ∃ A, e = .returned (.slice (some ⟨A, 0, none⟩) (flds s).length (flds s).length) ∧ w.heap.size ≤ A ∧
      (∀ k, (h : k < (flds s).length) → w'.cell? ⟨A, k, none⟩ = some (.string ⟨((flds s)[k]).toArray⟩)) ∧ Below w.heap.size w w' :=
  (Tryd.strings_Fields_any s w hs hE.1 hE.2.1).mono fun e w' ⟨A, he, hA, ho, hb⟩ => ⟨A, he, hA, fun k h => by
    have := ho.cellAt k (by show k < (flds s).length * 1; omega)
    rw [this, List.getElem?_map, List.getElem?_eq_getElem (show k < (Lib.fieldsD s.data.toList).length from h)]; rfl, hb⟩

/-- The index of a word among the fields of a list. -/
def inF (s l : ByteArray) : Int := WP.inL (flds l) s.data.toList

set_option maxHeartbeats 1000000 in
theorem in_any (s l : ByteArray) (w : World) (hl : l.size < 4294967281) (hn : (flds l).length ≤ 1000000) (hE : Env w) :
    Calls Tryd.prog 11 #[.string s, .string l] w fun e w' => e = .returned (.int .i64 (inF s l)) ∧ Below w.heap.size w w' := by
  have HE := Lib.hid hE
  clear hE
  go_enter Tryd.func11, Tryd.ntmps11
  go_wp2_with fail
  refine (fields_any _ _ hl HE.out).mono ?_
  rintro e w1 ⟨A, rfl, hA, hc, hb⟩
  have HC := Lib.hid hc
  clear hc
  go_wp2
  go_loop [6] (fun i => ∃ k : Nat, k ≤ (flds l).length ∧ i = .int .i64 k ∧ Hid (∀ j (h : j < k) (h' : k ≤ (flds l).length), (flds l)[j] ≠ s.data.toList)) (fun i => (flds l).length - (intOf i).toNat)
  case atStart => exact ⟨0, Nat.zero_le _, rfl, fun j h => absurd h (by omega)⟩
  case round =>
    obtain ⟨k, hk, rfl, hall⟩ := hrel
    by_cases hlt : k < (flds l).length
    · have hck := HC.out k hlt
      have hS : Hid ((flds l)[k] = (flds l)[k]) := rfl
      generalize hx : (flds l)[k] = x at hck hS
      have HX := Lib.hid hx
      clear hx
      by_cases he : x = s.data.toList
      · have he2 : (x == s.toList) = true := by rw [Lib.toList_data]; simp [he]
        have HE2 := Lib.hid he
        clear he
        go_wp2
        go_ret
        exact ⟨ret_int (WP.inL_hit _ _ k hlt (fun j h => hall.out j h hk) (HX.out.trans HE2.out)).symm, hb⟩
      · have he2 : (x == s.toList) = false := by rw [Lib.toList_data]; simpa using he
        have HE2 := Lib.hid he
        clear he
        go_wp2
        go_round
        case rel => exact ⟨k + 1, by omega, by go_num, fun j h h' => by
          by_cases e : j < k
          · exact hall.out j e hk
          · obtain rfl : j = k := by omega
            rw [HX.out]; exact HE2.out⟩
        case measure => simp [intOf]; omega
    · go_wp2
      go_ret
      exact ⟨ret_int (WP.inL_miss _ _ (fun j h => hall.out j (by omega) hk)).symm, hb⟩
end Go.Proofs.YtphofgokcfdobaaDoor
