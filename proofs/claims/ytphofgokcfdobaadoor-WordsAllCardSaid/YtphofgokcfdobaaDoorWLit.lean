/- The field of a text, and of a literal. -/
import Derived.Test.YtphofgokcfdobaaDoorWNum
namespace Go.Proofs.YtphofgokcfdobaaDoor
open Go.RowKit Go.Shelf
set_option maxRecDepth 100000

/-- What the field of a text is. -/
def TextPost (w : World) (l : List UInt8) (e : Ending) (w' : World) : Prop :=
  ∃ A, e = .returned (.tuple #[.agg (fieldV 2 (List.replicate l.length 88) 0 0 false l.length (.slice (some ⟨A, 0, none⟩) l.length l.length)), .int .i64 0]) ∧
    w.heap.size ≤ A ∧ BytesAt w' 5 A l ∧ Below w.heap.size w w'

set_option maxHeartbeats 4000000 in
theorem text_ok (s : ByteArray) (w : World) (h1 : 1 ≤ (s.size : Int)) (h2 : (s.size : Int) ≤ 256) :
    Calls Tryd.prog 31 #[.string s] w (TextPost w s.data.toList) := by
  go_enter Tryd.func31, Tryd.ntmps31
  go_wp2_with fail
  refine (repeat1_any _ _ _ (by omega)).mono ?_; rintro e w3 ⟨rfl, hb3⟩
  have hg0 : w3.heap[w.heap.size]? = some (.cells fieldZ 41 (0, 0)) := by
    rw [hb3.block _ (by simp)]
    show (w.heap.push _)[w.heap.size]? = _
    simp [fieldZ]
  have hsz3 := hb3.size
  have hsz3' : w.heap.size + 1 ≤ w3.heap.size := by simpa using hsz3
  clear hsz3
  have HG0 := Lib.hid hg0
  have HB3 := Lib.hid hb3
  clear hg0 hb3
  go_wp2_with (refine wpList_bytes_of rfl _ 9 39 5 rfl s rfl Tryd.underlying9 Tryd.underlying39 Tryd.underlying5 ?_)
  intro c w2 hc2 hB hb hsz
  have HB := Lib.hid hB
  have Hb := Lib.hid hb
  clear hB hb
  go_wp2_with fail
  refine (clipB_any _ _ _ _ hc2).mono ?_; rintro e w1 ⟨rfl, rfl⟩
  go_wp2_with (refine wpList_store_row rfl _ _ 41 rfl w.heap.size rfl _ rfl _ _ ((Hb.out.block _ (by omega)).trans HG0.out) rfl (by kernel_rfl) rfl ?_)
  intro w5 hg5 hgr5 hsz5
  have HG5 := Lib.hid hg5
  clear hg5
  go_wp2_with fail
  refine bodyPost_ret (results_row_tmp rfl _ _ w.heap.size _ _ _ _ rfl HG5.out Tryd.underlying41 rfl (by kernel_rfl)) rfl ?_
  refine ⟨w3.heap.size, ?_, by omega, HB.out.same (hgr5.block _ HB.out.lt (by simp; omega)), ?_⟩
  · have : s.data.toList.length = s.size := (Lib.size_eq s).symm
    rw [this]; simp [fieldV]
  · exact ((((Below.refl _ _).alloc (Nat.le_refl _) _).trans (HB3.out.mono (by simp))).trans (Hb.out.mono (by omega))).grown hgr5 (by omega) (fun k e => by cases e; exact Nat.le_refl _)

set_option maxHeartbeats 4000000 in
theorem text_bad (s : ByteArray) (w : World) (h1 : (s.size : Int) < 1 ∨ 256 < (s.size : Int)) :
    Calls Tryd.prog 31 #[.string s] w (ErrPost w 5) := by
  have hg0 : (w.alloc (.cells fieldZ 41 (0, 0))).heap[w.heap.size]? = some (.cells fieldZ 41 (0, 0)) := by
    show (w.heap.push _)[w.heap.size]? = _
    simp
  have HG0 := Lib.hid hg0
  clear hg0
  rcases h1 with h1 | h1
  all_goals
    go_enter Tryd.func31, Tryd.ntmps31
    go_wp2_with (refine wpList_store_row rfl _ _ 41 rfl w.heap.size rfl _ rfl _ _ HG0.out rfl (by kernel_rfl) rfl ?_)
    intro w5 hg5 hgr5 hsz5
    have HG5 := Lib.hid hg5
    clear hg5
    go_wp2_with fail
    refine bodyPost_ret (results_row_tmp rfl _ _ w.heap.size _ _ _ _ rfl HG5.out Tryd.underlying41 rfl (by kernel_rfl)) rfl ?_
    exact ⟨rfl, ((Below.refl w.heap.size w).alloc (Nat.le_refl _) _).grown hgr5 (by simp) (fun k e => by cases e; exact Nat.le_refl _)⟩
end Go.Proofs.YtphofgokcfdobaaDoor
