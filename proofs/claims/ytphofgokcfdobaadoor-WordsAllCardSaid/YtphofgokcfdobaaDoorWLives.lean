/- The examples of the chapter: the law's lives returns true. -/
import Derived.Test.YtphofgokcfdobaaDoorWLit4
import Derived.Test.YtphofgokcfdobaaDoorWTab
namespace Go.Proofs.YtphofgokcfdobaaDoor
open Go.RowKit Go.Shelf
set_option maxRecDepth 100000

theorem below_store {w w1 w5 : World} {B : Nat} {o : Obj} (h : Below B w w1) (hB : B ≤ w1.heap.size) (hgr : (w1.alloc o).grownBy w5 (some w1.heap.size)) : Below B w w5 :=
  (h.alloc hB _).grown hgr (by simp; omega) (fun k e => by cases e; exact hB)
theorem of_c (s : ByteArray) (c : Int) (w : World) (hc : WP.cls s.data.toList = c) (hs : s.size ≤ maxLen) (hE : Env w) :
    Calls Tryd.prog 13 #[.string s] w fun e w' => e = .returned (.int .u8 c) ∧ Below w.heap.size w w' := by
  rw [← hc]; exact of_any s w hs hE
theorem lit_ok (k : Int) (t : ByteArray) (f : Fld) (w : World) (hE : Env w) (hs : t.size ≤ 100000) (h : litR k t.data.toList = .ok f) :
    Calls Tryd.prog 16 #[.agg #[.int .u8 k, .string t, .int .i64 0, .int .i64 0, .bool false]] w (FldPost w f) := by
  have := literal_any k t 0 0 false w hE hs
  rw [h] at this; exact this
theorem lit_err (k : Int) (t : ByteArray) (c : Int) (w : World) (hE : Env w) (hs : t.size ≤ 100000) (h : litR k t.data.toList = .error c) :
    Calls Tryd.prog 16 #[.agg #[.int .u8 k, .string t, .int .i64 0, .int .i64 0, .bool false]] w (ErrPost w c) := by
  have := literal_any k t 0 0 false w hE hs
  rw [h] at this; exact this
theorem shows_true (k : Int) (s pic b : ByteArray) (w : World) (hE : Env w) (hs : s.size ≤ 100000) (h : showsR (litR k s.data.toList) pic.data.toList b.data.toList = true) :
    Calls Tryd.prog 20 #[.int .u8 k, .string s, .string pic, .string b] w fun e w' => e = .returned (.bool true) ∧ Below w.heap.size w w' := by
  have := shows_any k s pic b w hE hs
  rw [h] at this; exact this
theorem byte_c (s : ByteArray) (n : Int) (b : Bool) (w : World) (h1 : figByte s.data.toList = n) (h2 : figIs s.data.toList = b) :
    Calls Tryd.prog 12 #[.string s] w fun e w' => e = .returned (.tuple #[.int .u8 n, .bool b]) ∧ w = w' := by
  rw [← h1, ← h2]; exact byte_any s w

def fMinus : Fld := { cat := 4, pic := [83, 57, 86, 57, 57], digits := 3, scale := 2, signed := true, bytes := [49, 53, 125] }

set_option maxHeartbeats 8000000 in
theorem lives_any (w : World) (hE : Env w) :
    Calls Tryd.prog 9 #[] w fun e w' => e = .returned (.bool true) ∧ Below w.heap.size w w' := by
  have HE := Lib.hid hE
  clear hE
  have HB0 := Lib.hid (Below.refl w.heap.size w)
  go_enter Tryd.func9, Tryd.ntmps9
  go_wp2_with fail
  refine (byte_c ⟨#[81, 85, 79, 84, 69]⟩ 34 true _ (by decide +kernel) (by decide +kernel)).mono ?_; rintro e w0 ⟨rfl, rfl⟩
  go_wp2_with fail
  refine (byte_c ⟨#[65, 76, 76]⟩ 0 false _ (by decide +kernel) (by decide +kernel)).mono ?_; rintro e w0 ⟨rfl, rfl⟩
  go_wp2_with fail
  refine (lit_ok 2 ⟨#[45, 49, 46, 53, 48]⟩ fMinus _ (HE.out.below HB0.out) (by decide) (by kernel_rfl)).mono ?_
  rintro e W1 ⟨A, rfl, hA, hBy, hb⟩
  have HB1 := Lib.hid (HB0.out.trans (hb.mono HB0.out.size))
  clear hb
  have HW2 := Lib.hid (heap_alloc_new W1 (.cells fieldZ 41 (0, 0)))
  go_wp2_with (refine wpList_store_row rfl _ _ 41 rfl W1.heap.size rfl _ rfl _ _ HW2.out rfl (by kernel_rfl) rfl ?_)
  intro W2 hg2 hgr2 hsz2
  have HB2 := Lib.hid (below_store HB1.out HB1.out.size hgr2)
  have HF := Lib.hid hg2
  have HBy := Lib.hid ((hBy.alloc _).same (hgr2.block _ (by have := hBy.lt; simp; omega) (by have := hBy.lt; simp; omega)))
  have hA2 : W1.heap.size < W2.heap.size := by rw [hsz2]; simp
  have hA0 : A < W2.heap.size := by have := hBy.lt; omega
  have HG2 := Lib.hid (Below.refl W2.heap.size W2)
  clear hBy
  clear hg2 HW2 hgr2 hsz2
  go_wp2_with fail
  refine (lit_err 1 ⟨#[65]⟩ 11 _ (HE.out.below HB2.out) (by decide) (by kernel_rfl)).mono ?_
  rintro e W3 ⟨rfl, hb⟩
  have HB3 := Lib.hid (HB2.out.trans (hb.mono HB2.out.size))
  have HG3 := Lib.hid (HG2.out.trans (hb.mono HG2.out.size))
  clear hb
  have HW4 := Lib.hid (heap_alloc_new W3 (.cells fieldZ 41 (0, 0)))
  go_wp2_with (refine wpList_store_row rfl _ _ 41 rfl W3.heap.size rfl _ rfl _ _ HW4.out rfl (by kernel_rfl) rfl ?_)
  intro W4 hg4 hgr4 hsz4
  have HB4 := Lib.hid (below_store HB3.out HB3.out.size hgr4)
  have HG4 := Lib.hid (below_store HG3.out HG3.out.size hgr4)
  clear hg4 HW4 hgr4 hsz4
  go_wp2_with fail
  refine (lit_err 6 ⟨#[46]⟩ 12 _ (HE.out.below HB4.out) (by decide) (by kernel_rfl)).mono ?_
  rintro e W5 ⟨rfl, hb⟩
  have HB5 := Lib.hid (HB4.out.trans (hb.mono HB4.out.size))
  have HG5 := Lib.hid (HG4.out.trans (hb.mono HG4.out.size))
  clear hb
  have HW6 := Lib.hid (heap_alloc_new W5 (.cells fieldZ 41 (0, 0)))
  go_wp2_with (refine wpList_store_row rfl _ _ 41 rfl W5.heap.size rfl _ rfl _ _ HW6.out rfl (by kernel_rfl) rfl ?_)
  intro W6 hg6 hgr6 hsz6
  have HB6 := Lib.hid (below_store HB5.out HB5.out.size hgr6)
  have HG6 := Lib.hid (below_store HG5.out HG5.out.size hgr6)
  clear hg6 HW6 hgr6 hsz6
  go_wp2_with fail
  refine (lit_err 2 ⟨#[53, 46]⟩ 4 _ (HE.out.below HB6.out) (by decide) (by kernel_rfl)).mono ?_
  rintro e W7 ⟨rfl, hb⟩
  have HB7 := Lib.hid (HB6.out.trans (hb.mono HB6.out.size))
  have HG7 := Lib.hid (HG6.out.trans (hb.mono HG6.out.size))
  clear hb
  have HW8 := Lib.hid (heap_alloc_new W7 (.cells fieldZ 41 (0, 0)))
  go_wp2_with (refine wpList_store_row rfl _ _ 41 rfl W7.heap.size rfl _ rfl _ _ HW8.out rfl (by kernel_rfl) rfl ?_)
  intro W8 hg8 hgr8 hsz8
  have HB8 := Lib.hid (below_store HB7.out HB7.out.size hgr8)
  have HG8 := Lib.hid (below_store HG7.out HG7.out.size hgr8)
  clear hg8 HW8 hgr8 hsz8
  go_wp2_with fail
  refine (of_c ⟨#[77, 79, 86, 69]⟩ 2 _ (by decide +kernel) (by decide) (HE.out.below HB8.out)).mono ?_
  rintro e W9 ⟨rfl, hb⟩
  have HB9 := Lib.hid (HB8.out.trans (hb.mono HB8.out.size))
  have HG9 := Lib.hid (HG8.out.trans (hb.mono HG8.out.size))
  clear hb
  go_wp2_with fail
  refine (of_c ⟨#[84, 79]⟩ 1 _ (by decide +kernel) (by decide) (HE.out.below HB9.out)).mono ?_
  rintro e W10 ⟨rfl, hb⟩
  have HB10 := Lib.hid (HB9.out.trans (hb.mono HB9.out.size))
  have HG10 := Lib.hid (HG9.out.trans (hb.mono HG9.out.size))
  clear hb
  go_wp2_with fail
  refine (of_c ⟨#[83, 80, 65, 67, 69, 83]⟩ 3 _ (by decide +kernel) (by decide) (HE.out.below HB10.out)).mono ?_
  rintro e W11 ⟨rfl, hb⟩
  have HB11 := Lib.hid (HB10.out.trans (hb.mono HB10.out.size))
  have HG11 := Lib.hid (HG10.out.trans (hb.mono HG10.out.size))
  clear hb
  go_wp2_with fail
  refine (of_c ⟨#[84, 79, 84, 65, 76]⟩ 0 _ (by decide +kernel) (by decide) (HE.out.below HB11.out)).mono ?_
  rintro e W12 ⟨rfl, hb⟩
  have HB12 := Lib.hid (HB11.out.trans (hb.mono HB11.out.size))
  have HG12 := Lib.hid (HG11.out.trans (hb.mono HG11.out.size))
  clear hb
  go_wp2_with fail
  refine (of_c ⟨#[109, 111, 118, 101]⟩ 0 _ (by decide +kernel) (by decide) (HE.out.below HB12.out)).mono ?_
  rintro e W13 ⟨rfl, hb⟩
  have HB13 := Lib.hid (HB12.out.trans (hb.mono HB12.out.size))
  have HG13 := Lib.hid (HG12.out.trans (hb.mono HG12.out.size))
  clear hb
  have HF13 := Lib.hid ((HG13.out.block _ hA2).trans HF.out)
  have hcr := fun j => cell_of_row W13 _ j _ _ _ HF13.out
  have HC5 := Lib.hid (HBy.out.same (HG13.out.block A hA0)).cell
  go_wp2_with (refine wpList_str_of rfl _ 39 9 5 rfl A 0 3 [49, 53, 125] rfl Tryd.underlying39 Tryd.underlying5 Tryd.underlying9 (fun j h => by rw [Nat.zero_add]; exact HC5.out j h) ?_)
  clear hcr
  clear HF13 HC5
  go_wp2_with fail
  refine (shows_true 2 ⟨#[48, 48, 55]⟩ ⟨#[57, 57, 57]⟩ ⟨#[48, 48, 55]⟩ _ (HE.out.below HB13.out) (by decide) (by kernel_rfl)).mono ?_
  rintro e W14 ⟨rfl, hb⟩
  have HB14 := Lib.hid (HB13.out.trans (hb.mono HB13.out.size))
  have HG14 := Lib.hid (HG13.out.trans (hb.mono HG13.out.size))
  clear hb
  go_wp2_with fail
  refine (shows_true 2 ⟨#[43, 46, 53]⟩ ⟨#[83, 86, 57]⟩ ⟨#[69]⟩ _ (HE.out.below HB14.out) (by decide) (by kernel_rfl)).mono ?_
  rintro e W15 ⟨rfl, hb⟩
  have HB15 := Lib.hid (HB14.out.trans (hb.mono HB14.out.size))
  have HG15 := Lib.hid (HG14.out.trans (hb.mono HG14.out.size))
  clear hb
  go_wp2_with fail
  refine (shows_true 3 ⟨#[65, 66]⟩ ⟨#[88, 88]⟩ ⟨#[65, 66]⟩ _ (HE.out.below HB15.out) (by decide) (by kernel_rfl)).mono ?_
  rintro e W16 ⟨rfl, hb⟩
  have HB16 := Lib.hid (HB15.out.trans (hb.mono HB15.out.size))
  have HG16 := Lib.hid (HG15.out.trans (hb.mono HG15.out.size))
  clear hb
  go_wp2_with fail
  refine (shows_true 1 ⟨#[90, 69, 82, 79]⟩ ⟨#[57]⟩ ⟨#[48]⟩ _ (HE.out.below HB16.out) (by decide) (by kernel_rfl)).mono ?_
  rintro e W17 ⟨rfl, hb⟩
  have HB17 := Lib.hid (HB16.out.trans (hb.mono HB16.out.size))
  have HG17 := Lib.hid (HG16.out.trans (hb.mono HG16.out.size))
  clear hb
  go_wp2_with fail
  refine (shows_true 1 ⟨#[72, 73, 71, 72, 45, 86, 65, 76, 85, 69]⟩ ⟨#[88]⟩ ⟨#[255]⟩ _ (HE.out.below HB17.out) (by decide) (by kernel_rfl)).mono ?_
  rintro e W18 ⟨rfl, hb⟩
  have HB18 := Lib.hid (HB17.out.trans (hb.mono HB17.out.size))
  have HG18 := Lib.hid (HG17.out.trans (hb.mono HG17.out.size))
  clear hb
  go_wp2_with fail
  go_ret
  exact ⟨rfl, HB18.out⟩
end Go.Proofs.YtphofgokcfdobaaDoor
