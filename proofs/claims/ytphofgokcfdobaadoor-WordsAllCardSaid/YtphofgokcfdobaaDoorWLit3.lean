/- The field of a literal. -/
import Derived.Test.YtphofgokcfdobaaDoorWLit2
namespace Go.Proofs.YtphofgokcfdobaaDoor
open Go.RowKit Go.Shelf
set_option maxRecDepth 100000

def tokV (kind : Int) (text : ByteArray) (line col : Int) (left : Bool) : Value := .agg #[.int .u8 kind, .string text, .int .i64 line, .int .i64 col, .bool left]

/-- The field of a literal. -/
def litR (kind : Int) (l : List UInt8) : Except Int Fld :=
  if kind = 2 then numR l
  else if kind = 3 then textR l
  else if kind = 1 then
    match fig l with
    | none => .error 11
    | some b => if b = 48 then numR [48] else textR [UInt8.ofNat b]
  else .error 12

theorem litPost_below {w w0 : World} {r : Except Int Fld} {e : Ending} {w' : World} (h : LitPost w0 r e w') (hb : Below w.heap.size w w0) : LitPost w r e w' := by
  cases r with
  | error c => exact ⟨h.1, hb.trans (h.2.mono hb.size)⟩
  | ok f =>
    obtain ⟨A, he, hA, hB, hbb⟩ := h
    exact ⟨A, he, Nat.le_trans hb.size hA, hB, hb.trans (hbb.mono hb.size)⟩

theorem heap2 (w : World) (a b : Obj) : ((w.alloc a).alloc b).heap[w.heap.size + 1]? = some b := heap_alloc2_new w a b
theorem size2 (w : World) (a b : Obj) : ((w.alloc a).alloc b).heap.size = w.heap.size + 2 := by simp
theorem cell3 (w : World) (a b : Obj) (c : Array Value) (t : TypeId) (i : Nat) : (((w.alloc a).alloc b).alloc (.cells c t)).cell? ⟨w.heap.size + 2, i, none⟩ = c[i]? := by
  have h := World.cell?_alloc_new (w := (w.alloc a).alloc b) c t i
  rwa [size2] at h
theorem below2 (w : World) (a b : Obj) : Below w.heap.size w ((w.alloc a).alloc b) := ((Below.refl _ _).alloc (Nat.le_refl _) _).alloc (by simp) _


set_option maxHeartbeats 4000000 in
theorem literal_num (t : ByteArray) (line col : Int) (left : Bool) (w : World) (hE : Env w) (_hs : t.size ≤ 100000) :
    Calls Tryd.prog 16 #[tokV 2 t line col left] w (LitPost w (numR t.data.toList)) := by
  have hc : ∀ w0, Env w0 → Calls Tryd.prog 30 #[.string t] w0 (LitPost w0 (numR t.data.toList)) := fun w0 hE => number_any _ _ hE _hs
  generalize numR t.data.toList = r at hc
  have HE := Lib.hid hE
  have HC := Lib.hid hc
  clear hE hc
  unfold tokV
  skip
  rcases r with c | f
  · go_enter Tryd.func16, Tryd.ntmps16
    go_wp2_with fail
    refine (HC.out _ (HE.out.below (below2 w _ _))).mono ?_
    rintro e w1 ⟨rfl, hb⟩
    have hg0 := Lib.hid ((hb.block (w.heap.size + 1) (by simp)).trans (heap2 w _ _))
    have hb1 := Lib.hid ((below2 w _ _).trans (hb.mono (by simp; omega)))
    have hsz := hb.size
    simp only [size2] at hsz
    clear hb
    go_wp2_with (refine wpList_store_row rfl _ _ 41 rfl (w.heap.size + 1) rfl _ rfl _ _ hg0.out rfl (by kernel_rfl) rfl ?_)
    intro w5 hg5 hgr5 hsz5
    have HG5 := Lib.hid hg5
    clear hg5
    go_wp2_with fail
    refine bodyPost_ret (results_row_tmp rfl _ _ (w.heap.size + 1) _ _ _ _ rfl HG5.out Tryd.underlying41 rfl (by kernel_rfl)) rfl ?_
    exact ⟨rfl, hb1.out.grown hgr5 (by omega) (fun k e => by cases e; omega)⟩
  · go_enter Tryd.func16, Tryd.ntmps16
    go_wp2_with fail
    refine (HC.out _ (HE.out.below (below2 w _ _))).mono ?_
    rintro e w1 ⟨A, rfl, hA, hB, hb⟩
    have hg0 := Lib.hid ((hb.block (w.heap.size + 1) (by simp)).trans (heap2 w _ _))
    have hb1 := Lib.hid ((below2 w _ _).trans (hb.mono (by simp; omega)))
    have hsz := hb.size
    simp only [size2] at hsz hA
    have HB := Lib.hid hB
    clear hb hB
    go_wp2_with (refine wpList_store_row rfl _ _ 41 rfl (w.heap.size + 1) rfl _ rfl _ _ hg0.out rfl (by kernel_rfl) rfl ?_)
    intro w5 hg5 hgr5 hsz5
    have HG5 := Lib.hid hg5
    clear hg5
    go_wp2_with fail
    refine bodyPost_ret (results_row_tmp rfl _ _ (w.heap.size + 1) _ _ _ _ rfl HG5.out Tryd.underlying41 rfl (by kernel_rfl)) rfl ?_
    exact ⟨A, rfl, by omega, HB.out.same (hgr5.block _ HB.out.lt (by simp; omega)), hb1.out.grown hgr5 (by omega) (fun k e => by cases e; omega)⟩

set_option maxHeartbeats 4000000 in
theorem literal_text (t : ByteArray) (line col : Int) (left : Bool) (w : World) (hE : Env w) (_hs : t.size ≤ 100000) :
    Calls Tryd.prog 16 #[tokV 3 t line col left] w (LitPost w (textR t.data.toList)) := by
  have hc : ∀ w0, Env w0 → Calls Tryd.prog 31 #[.string t] w0 (LitPost w0 (textR t.data.toList)) := fun w0 hE => text_any _ _
  generalize textR t.data.toList = r at hc
  have HE := Lib.hid hE
  have HC := Lib.hid hc
  clear hE hc
  unfold tokV
  skip
  rcases r with c | f
  · go_enter Tryd.func16, Tryd.ntmps16
    go_wp2_with fail
    refine (HC.out _ (HE.out.below (below2 w _ _))).mono ?_
    rintro e w1 ⟨rfl, hb⟩
    have hg0 := Lib.hid ((hb.block (w.heap.size + 1) (by simp)).trans (heap2 w _ _))
    have hb1 := Lib.hid ((below2 w _ _).trans (hb.mono (by simp; omega)))
    have hsz := hb.size
    simp only [size2] at hsz
    clear hb
    go_wp2_with (refine wpList_store_row rfl _ _ 41 rfl (w.heap.size + 1) rfl _ rfl _ _ hg0.out rfl (by kernel_rfl) rfl ?_)
    intro w5 hg5 hgr5 hsz5
    have HG5 := Lib.hid hg5
    clear hg5
    go_wp2_with fail
    refine bodyPost_ret (results_row_tmp rfl _ _ (w.heap.size + 1) _ _ _ _ rfl HG5.out Tryd.underlying41 rfl (by kernel_rfl)) rfl ?_
    exact ⟨rfl, hb1.out.grown hgr5 (by omega) (fun k e => by cases e; omega)⟩
  · go_enter Tryd.func16, Tryd.ntmps16
    go_wp2_with fail
    refine (HC.out _ (HE.out.below (below2 w _ _))).mono ?_
    rintro e w1 ⟨A, rfl, hA, hB, hb⟩
    have hg0 := Lib.hid ((hb.block (w.heap.size + 1) (by simp)).trans (heap2 w _ _))
    have hb1 := Lib.hid ((below2 w _ _).trans (hb.mono (by simp; omega)))
    have hsz := hb.size
    simp only [size2] at hsz hA
    have HB := Lib.hid hB
    clear hb hB
    go_wp2_with (refine wpList_store_row rfl _ _ 41 rfl (w.heap.size + 1) rfl _ rfl _ _ hg0.out rfl (by kernel_rfl) rfl ?_)
    intro w5 hg5 hgr5 hsz5
    have HG5 := Lib.hid hg5
    clear hg5
    go_wp2_with fail
    refine bodyPost_ret (results_row_tmp rfl _ _ (w.heap.size + 1) _ _ _ _ rfl HG5.out Tryd.underlying41 rfl (by kernel_rfl)) rfl ?_
    exact ⟨A, rfl, by omega, HB.out.same (hgr5.block _ HB.out.lt (by simp; omega)), hb1.out.grown hgr5 (by omega) (fun k e => by cases e; omega)⟩

set_option maxHeartbeats 4000000 in
theorem literal_zero (t : ByteArray) (line col : Int) (left : Bool) (w : World) (hE : Env w) (_hs : t.size ≤ 100000) (hf : fig t.data.toList = some 48) :
    Calls Tryd.prog 16 #[tokV 1 t line col left] w (LitPost w (numR [48])) := by
  have hc : ∀ w0, Env w0 → Calls Tryd.prog 30 #[.string ⟨#[48]⟩] w0 (LitPost w0 (numR [48])) := fun w0 hE => number_any ⟨#[48]⟩ _ hE (by decide)
  generalize numR [48] = r at hc
  have HE := Lib.hid hE
  have HC := Lib.hid hc
  clear hE hc
  unfold tokV
  have hb48 : figByte t.data.toList = 48 := by rw [figByte, hf]; rfl
  have his : figIs t.data.toList = true := by rw [figIs, hf]; rfl
  have HB48 := Lib.hid hb48
  have HIS := Lib.hid his
  clear hb48 his hf
  rcases r with c | f
  · go_enter Tryd.func16, Tryd.ntmps16
    go_wp2_with fail
    refine (byte_any _ _).mono ?_; rintro e w1 ⟨rfl, rfl⟩
    rw [HB48.out, HIS.out]
    go_wp2_with fail
    refine (HC.out _ (HE.out.below (below2 w _ _))).mono ?_
    rintro e w1 ⟨rfl, hb⟩
    have hg0 := Lib.hid ((hb.block (w.heap.size + 1) (by simp)).trans (heap2 w _ _))
    have hb1 := Lib.hid ((below2 w _ _).trans (hb.mono (by simp; omega)))
    have hsz := hb.size
    simp only [size2] at hsz
    clear hb
    go_wp2_with (refine wpList_store_row rfl _ _ 41 rfl (w.heap.size + 1) rfl _ rfl _ _ hg0.out rfl (by kernel_rfl) rfl ?_)
    intro w5 hg5 hgr5 hsz5
    have HG5 := Lib.hid hg5
    clear hg5
    go_wp2_with fail
    refine bodyPost_ret (results_row_tmp rfl _ _ (w.heap.size + 1) _ _ _ _ rfl HG5.out Tryd.underlying41 rfl (by kernel_rfl)) rfl ?_
    exact ⟨rfl, hb1.out.grown hgr5 (by omega) (fun k e => by cases e; omega)⟩
  · go_enter Tryd.func16, Tryd.ntmps16
    go_wp2_with fail
    refine (byte_any _ _).mono ?_; rintro e w1 ⟨rfl, rfl⟩
    rw [HB48.out, HIS.out]
    go_wp2_with fail
    refine (HC.out _ (HE.out.below (below2 w _ _))).mono ?_
    rintro e w1 ⟨A, rfl, hA, hB, hb⟩
    have hg0 := Lib.hid ((hb.block (w.heap.size + 1) (by simp)).trans (heap2 w _ _))
    have hb1 := Lib.hid ((below2 w _ _).trans (hb.mono (by simp; omega)))
    have hsz := hb.size
    simp only [size2] at hsz hA
    have HB := Lib.hid hB
    clear hb hB
    go_wp2_with (refine wpList_store_row rfl _ _ 41 rfl (w.heap.size + 1) rfl _ rfl _ _ hg0.out rfl (by kernel_rfl) rfl ?_)
    intro w5 hg5 hgr5 hsz5
    have HG5 := Lib.hid hg5
    clear hg5
    go_wp2_with fail
    refine bodyPost_ret (results_row_tmp rfl _ _ (w.heap.size + 1) _ _ _ _ rfl HG5.out Tryd.underlying41 rfl (by kernel_rfl)) rfl ?_
    exact ⟨A, rfl, by omega, HB.out.same (hgr5.block _ HB.out.lt (by simp; omega)), hb1.out.grown hgr5 (by omega) (fun k e => by cases e; omega)⟩

set_option maxHeartbeats 4000000 in
theorem literal_fig (t : ByteArray) (line col : Int) (left : Bool) (w : World) (hE : Env w) (_hs : t.size ≤ 100000) (b : UInt8) (hf : fig t.data.toList = some b.toNat) (hne : ((b.toNat : Int) == 48) = false) :
    Calls Tryd.prog 16 #[tokV 1 t line col left] w (LitPost w (textR [b])) := by
  have hc : ∀ w0, Env w0 → Calls Tryd.prog 31 #[.string ⟨#[b]⟩] w0 (LitPost w0 (textR [b])) := fun w0 hE => text_any ⟨#[b]⟩ _
  generalize textR [b] = r at hc
  have HE := Lib.hid hE
  have HC := Lib.hid hc
  clear hE hc
  unfold tokV
  have hb48 : figByte t.data.toList = (b.toNat : Int) := by rw [figByte, hf]; rfl
  have his : figIs t.data.toList = true := by rw [figIs, hf]; rfl
  have HB48 := Lib.hid hb48
  have HIS := Lib.hid his
  clear hb48 his hf
  rcases r with c | f
  · go_enter Tryd.func16, Tryd.ntmps16
    go_wp2_with fail
    refine (byte_any _ _).mono ?_; rintro e w1 ⟨rfl, rfl⟩
    rw [HB48.out, HIS.out]
    go_wp2_with (refine wpList_str_of rfl _ 39 9 5 rfl (w.heap.size + 2) 0 1 [b] rfl Tryd.underlying39 Tryd.underlying5 Tryd.underlying9 ?hcc ?_)
    case hcc =>
      intro j hj
      obtain rfl : j = 0 := by simpa using hj
      exact cell3 w _ _ _ _ _
    go_wp2_with fail
    refine (HC.out _ (HE.out.below ((below2 w _ _).alloc (by simp; omega) _))).mono ?_
    rintro e w1 ⟨rfl, hb⟩
    have hg0 := Lib.hid ((hb.block (w.heap.size + 1) (by simp)).trans ((Below.heap_alloc _ _ _ (by simp)).trans (heap2 w _ _)))
    have hb1 := Lib.hid (((below2 w _ _).alloc (by simp; omega) _).trans (hb.mono (by simp; omega)))
    have hsz := hb.size
    simp only [World.size_alloc] at hsz
    clear hb
    go_wp2_with (refine wpList_store_row rfl _ _ 41 rfl (w.heap.size + 1) rfl _ rfl _ _ hg0.out rfl (by kernel_rfl) rfl ?_)
    intro w5 hg5 hgr5 hsz5
    have HG5 := Lib.hid hg5
    clear hg5
    go_wp2_with fail
    refine bodyPost_ret (results_row_tmp rfl _ _ (w.heap.size + 1) _ _ _ _ rfl HG5.out Tryd.underlying41 rfl (by kernel_rfl)) rfl ?_
    exact ⟨rfl, hb1.out.grown hgr5 (by omega) (fun k e => by cases e; omega)⟩
  · go_enter Tryd.func16, Tryd.ntmps16
    go_wp2_with fail
    refine (byte_any _ _).mono ?_; rintro e w1 ⟨rfl, rfl⟩
    rw [HB48.out, HIS.out]
    go_wp2_with (refine wpList_str_of rfl _ 39 9 5 rfl (w.heap.size + 2) 0 1 [b] rfl Tryd.underlying39 Tryd.underlying5 Tryd.underlying9 ?hcc ?_)
    case hcc =>
      intro j hj
      obtain rfl : j = 0 := by simpa using hj
      exact cell3 w _ _ _ _ _
    go_wp2_with fail
    refine (HC.out _ (HE.out.below ((below2 w _ _).alloc (by simp; omega) _))).mono ?_
    rintro e w1 ⟨A, rfl, hA, hB, hb⟩
    have hg0 := Lib.hid ((hb.block (w.heap.size + 1) (by simp)).trans ((Below.heap_alloc _ _ _ (by simp)).trans (heap2 w _ _)))
    have hb1 := Lib.hid (((below2 w _ _).alloc (by simp; omega) _).trans (hb.mono (by simp; omega)))
    have hsz := hb.size
    simp only [World.size_alloc] at hsz hA
    have HB := Lib.hid hB
    clear hb hB
    go_wp2_with (refine wpList_store_row rfl _ _ 41 rfl (w.heap.size + 1) rfl _ rfl _ _ hg0.out rfl (by kernel_rfl) rfl ?_)
    intro w5 hg5 hgr5 hsz5
    have HG5 := Lib.hid hg5
    clear hg5
    go_wp2_with fail
    refine bodyPost_ret (results_row_tmp rfl _ _ (w.heap.size + 1) _ _ _ _ rfl HG5.out Tryd.underlying41 rfl (by kernel_rfl)) rfl ?_
    exact ⟨A, rfl, by omega, HB.out.same (hgr5.block _ HB.out.lt (by simp; omega)), hb1.out.grown hgr5 (by omega) (fun k e => by cases e; omega)⟩

set_option maxHeartbeats 4000000 in
theorem literal_word (t : ByteArray) (k : Int) (line col : Int) (left : Bool) (w : World) (hk : k = 1) (hf : fig t.data.toList = none) :
    Calls Tryd.prog 16 #[tokV k t line col left] w (ErrPost w 11) := by
  have hg0 := Lib.hid (fun a b => heap2 w a b)
  unfold tokV
  subst hk
  have his : figIs t.data.toList = false := by rw [figIs, hf]; rfl
  have HIS := Lib.hid his
  clear his hf
  go_enter Tryd.func16, Tryd.ntmps16
  go_wp2_with fail
  refine (byte_any _ _).mono ?_; rintro e w1 ⟨rfl, rfl⟩
  rw [HIS.out]
  go_wp2_with (refine wpList_store_row rfl _ _ 41 rfl (w.heap.size + 1) rfl _ rfl _ _ (hg0.out _ _) rfl (by kernel_rfl) rfl ?_)
  intro w5 hg5 hgr5 hsz5
  have HG5 := Lib.hid hg5
  clear hg5
  go_wp2_with fail
  refine bodyPost_ret (results_row_tmp rfl _ _ (w.heap.size + 1) _ _ _ _ rfl HG5.out Tryd.underlying41 rfl (by kernel_rfl)) rfl ?_
  exact ⟨rfl, (below2 w _ _).grown hgr5 (by simp; omega) (fun k e => by cases e; omega)⟩

set_option maxHeartbeats 4000000 in
theorem literal_kind (t : ByteArray) (k : Int) (line col : Int) (left : Bool) (w : World) (h1 : (k == 1) = false) (h2 : (k == 2) = false) (h3 : (k == 3) = false) :
    Calls Tryd.prog 16 #[tokV k t line col left] w (ErrPost w 12) := by
  have hg0 := Lib.hid (fun a b => heap2 w a b)
  unfold tokV
  skip
  go_enter Tryd.func16, Tryd.ntmps16
  go_wp2_with (refine wpList_store_row rfl _ _ 41 rfl (w.heap.size + 1) rfl _ rfl _ _ (hg0.out _ _) rfl (by kernel_rfl) rfl ?_)
  intro w5 hg5 hgr5 hsz5
  have HG5 := Lib.hid hg5
  clear hg5
  go_wp2_with fail
  refine bodyPost_ret (results_row_tmp rfl _ _ (w.heap.size + 1) _ _ _ _ rfl HG5.out Tryd.underlying41 rfl (by kernel_rfl)) rfl ?_
  exact ⟨rfl, (below2 w _ _).grown hgr5 (by simp; omega) (fun k e => by cases e; omega)⟩
end Go.Proofs.YtphofgokcfdobaaDoor
