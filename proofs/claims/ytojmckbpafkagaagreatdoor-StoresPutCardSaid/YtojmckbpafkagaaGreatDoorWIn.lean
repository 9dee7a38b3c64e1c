/- What the library's variables hold, and the index of a word among the fields of a list. -/
import Derived.Test.YtojmckbpafkagaaGreatDoorWA
import Derived.Test.YtojmckbpafkagaaGreatDoorShelf
namespace Go.Proofs.YtojmckbpafkagaaGreatDoor
open Go.RowKit Go.Shelf
set_option maxRecDepth 100000

theorem tabIs_below {n : String} {g : Nat} {k : IntKind} {zs : List Int} {w w' : World} (hg : Tryz.prog.globalNamed n = some g) (h : Lib.TabIs Tryz.prog w n k zs) (hb : Below w.heap.size w w') : Lib.TabIs Tryz.prog w' n k zs := by
  unfold Lib.TabIs at *
  rcases Nat.lt_or_ge g w.heap.size with h' | h'
  · exact var?_below hb hg h' h
  · simp [World.var?, hg, Array.getElem?_eq_none h'] at h

/-- The library's variables as their initialisers lay them. -/
def Env (w : World) : Prop := Lib.TabIs Tryz.prog w "strings.asciiSpace" .u8 Lib.asciiSpaceTab ∧ Lib.WhiteTab 8 w ∧ ∃ m : Int, w.cell? ⟨1, 0, none⟩ = some (.int .i64 m)
theorem Env.below {w w' : World} (h : Env w) (hb : Below w.heap.size w w') : Env w' :=
  ⟨tabIs_below (g := 3) (by kernel_rfl) h.1 hb, WhiteTab_below h.2.1 hb, h.2.2.elim fun m hm => ⟨m, (hb.cell (cell_lt hm)).trans hm⟩⟩

def flds (s : ByteArray) : List (List UInt8) := Lib.fieldsD s.data.toList

theorem fields_any (s : ByteArray) (w : World) (hs : s.size < 4294967281) (hE : Env w) :
    Calls Tryz.prog 195 #[.string s] w fun e w' => ∃ A, e = .returned (.slice (some ⟨A, 0, none⟩) (flds s).length (flds s).length) ∧ w.heap.size ≤ A ∧
      (∀ k, (h : k < (flds s).length) → w'.cell? ⟨A, k, none⟩ = some (.string ⟨((flds s)[k]).toArray⟩)) ∧ Below w.heap.size w w' :=
  (Tryz.strings_Fields_any s w hs hE.1 hE.2.1).mono fun e w' ⟨A, he, hA, ho, hb⟩ => ⟨A, he, hA, fun k h => by
    have := ho.cellAt k (by show k < (flds s).length * 1; omega)
    rw [this, List.getElem?_map, List.getElem?_eq_getElem (show k < (Lib.fieldsD s.data.toList).length from h)]; rfl, hb⟩

end Go.Proofs.YtojmckbpafkagaaGreatDoor
