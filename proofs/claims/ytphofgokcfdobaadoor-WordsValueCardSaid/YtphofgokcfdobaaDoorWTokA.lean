/- The law WordsTokens returns true for every token. -/
import Derived.Test.YtphofgokcfdobaaDoorWLives
import Derived.Test.YtphofgokcfdobaaDoorWLitP
import Derived.Test.YtphofgokcfdobaaDoorBytes2
import Derived.Deep.QuietTactic
import Derived.BigQuiet
import Derived.Deep.RegionHeld3
namespace Go.Proofs.YtphofgokcfdobaaDoor
open Go.RowKit Go.Shelf
set_option maxRecDepth 100000

theorem lit_E (k : Int) (t : ByteArray) (line col : Int) (left : Bool) (c : Int) (hs : t.size ≤ 100000) (h : litR k t.data.toList = .error c) :
    ∀ w, Env w → Calls Tryd.prog 16 #[.agg #[.int .u8 k, .string t, .int .i64 line, .int .i64 col, .bool left]] w (ErrPost w c) := fun w hE => by
  have := literal_any k t line col left w hE hs
  rw [h] at this; exact this
theorem lit_K (k : Int) (t : ByteArray) (line col : Int) (left : Bool) (f : Fld) (hs : t.size ≤ 100000) (h : litR k t.data.toList = .ok f) :
    ∀ w, Env w → Calls Tryd.prog 16 #[.agg #[.int .u8 k, .string t, .int .i64 line, .int .i64 col, .bool left]] w (FldPost w f) := fun w hE => by
  have := literal_any k t line col left w hE hs
  rw [h] at this; exact this
theorem byte_N (s : ByteArray) (w : World) (h : fig s.data.toList = none) :
    Calls Tryd.prog 12 #[.string s] w fun e w' => e = .returned (.tuple #[.int .u8 0, .bool false]) ∧ w = w' :=
  byte_c s 0 false w (by rw [figByte, h]; rfl) (by rw [figIs, h]; rfl)
theorem byte_S (s : ByteArray) (n : Nat) (w : World) (h : fig s.data.toList = some n) :
    Calls Tryd.prog 12 #[.string s] w fun e w' => e = .returned (.tuple #[.int .u8 n, .bool true]) ∧ w = w' :=
  byte_c s n true w (by rw [figByte, h]; rfl) (by rw [figIs, h]; rfl)

set_option maxHeartbeats 4000000 in
theorem tokens_long (k : Int) (t : ByteArray) (line col : Int) (left : Bool) (w : World) (hE : Env w) (hs : 300 < (t.size : Int)) :
    Calls Tryd.prog 6 #[.agg #[.int .u8 k, .string t, .int .i64 line, .int .i64 col, .bool left]] w fun e w' => e = .returned (.bool true) ∧ Below w.heap.size w w' := by
  have HE := Lib.hid hE
  have HX : Hid (∀ j, (w.alloc (.cells #[.int .u8 k, .string t, .int .i64 line, .int .i64 col, .bool left] 49)).cell? ⟨w.heap.size, j, none⟩ = (#[.int .u8 k, .string t, .int .i64 line, .int .i64 col, .bool left] : Array Value)[j]?) := fun j => World.cell?_alloc_new _ _ _ _
  clear hE
  go_enter Tryd.func6, Tryd.ntmps6
  go_wp2_with fail
  refine (lives_any _ (HE.out.below ((Below.refl w.heap.size w).alloc (Nat.le_refl _) _))).mono ?_
  rintro e WF ⟨rfl, hbf⟩
  go_wp2_with fail
  go_ret
  exact ⟨rfl, ((Below.refl w.heap.size w).alloc (Nat.le_refl _) _).trans (hbf.mono (by simp))⟩

set_option maxHeartbeats 4000000 in
theorem tokens_num (k : Int) (t : ByteArray) (line col : Int) (left : Bool) (w : World) (hE : Env w) (hs : (t.size : Int) ≤ 300) (hk : (k == 2) = true) :
    Calls Tryd.prog 6 #[.agg #[.int .u8 k, .string t, .int .i64 line, .int .i64 col, .bool left]] w fun e w' => e = .returned (.bool true) ∧ Below w.heap.size w w' := by
  have HE := Lib.hid hE
  have HX : Hid (∀ j, (w.alloc (.cells #[.int .u8 k, .string t, .int .i64 line, .int .i64 col, .bool left] 49)).cell? ⟨w.heap.size, j, none⟩ = (#[.int .u8 k, .string t, .int .i64 line, .int .i64 col, .bool left] : Array Value)[j]?) := fun j => World.cell?_alloc_new _ _ _ _
  clear hE
  go_enter Tryd.func6, Tryd.ntmps6
  go_wp2_with fail
  refine (lives_any _ (HE.out.below ((Below.refl w.heap.size w).alloc (Nat.le_refl _) _))).mono ?_
  rintro e WF ⟨rfl, hbf⟩
  go_wp2_with fail
  go_ret
  exact ⟨rfl, ((Below.refl w.heap.size w).alloc (Nat.le_refl _) _).trans (hbf.mono (by simp))⟩

set_option maxHeartbeats 8000000 in
theorem tokens_widthn (k : Int) (t : ByteArray) (line col : Int) (left : Bool) (w : World) (hE : Env w) (hs : (t.size : Int) ≤ 300) (hk : k = 3) (hw : (t.size : Int) < 1 ∨ 256 < (t.size : Int)) (hfg : fig t.data.toList = none) :
    Calls Tryd.prog 6 #[.agg #[.int .u8 k, .string t, .int .i64 line, .int .i64 col, .bool left]] w fun e w' => e = .returned (.bool true) ∧ Below w.heap.size w w' := by
  have HE := Lib.hid hE
  have HX : Hid (∀ j, (w.alloc (.cells #[.int .u8 k, .string t, .int .i64 line, .int .i64 col, .bool left] 49)).cell? ⟨w.heap.size, j, none⟩ = (#[.int .u8 k, .string t, .int .i64 line, .int .i64 col, .bool left] : Array Value)[j]?) := fun j => World.cell?_alloc_new _ _ _ _
  clear hE
  subst hk
  have HFG := Lib.hid hfg
  clear hfg
  have htl := Lib.size_eq t
  have hlr : litR 3 t.data.toList = .error 5 := by
    rw [litR, if_neg (by decide), if_pos rfl, textR, if_pos (by omega)]
  clear htl
  have HN := Lib.hid (lit_E 3 t line col left 5 (by omega) hlr)
  clear hlr
  go_enter Tryd.func6, Tryd.ntmps6
  go_wp2_with fail
  refine (HN.out _ (HE.out.below ((Below.refl w.heap.size w).alloc (Nat.le_refl _) _))).mono ?_
  rintro e W1 ⟨rfl, hb1⟩
  have hc1 := fun j => (hb1.cell (p := ⟨w.heap.size, j, none⟩) (by simp)).trans (HX.out j)
  have hz1 : w.heap.size < W1.heap.size := by have := hb1.size; simp at this; omega
  have HB1 := Lib.hid (((Below.refl w.heap.size w).alloc (Nat.le_refl _) _).trans (hb1.mono (by simp)))
  have HC1 := Lib.hid hc1
  clear hb1 hc1
  have HWr := Lib.hid (heap_alloc_new W1 (.cells fieldZ 41 (0, 0)))
  go_wp2_with (refine wpList_store_row rfl _ _ 41 rfl W1.heap.size rfl _ rfl _ _ HWr.out rfl (by kernel_rfl) rfl ?_)
  intro W2 hg2 hgr2 hsz2
  have hcr2 := fun j => cell_of_row W2 _ j _ _ _ hg2
  have hc2 := fun j => (World.cell?_of_block (a := ⟨w.heap.size, j, none⟩) ((hgr2.block w.heap.size (by simp; omega) (by simp; omega)).trans (Below.heap_alloc _ _ _ hz1))).trans (HC1.out j)
  have HB2 := Lib.hid (below_store HB1.out HB1.out.size hgr2)
  clear hg2 hgr2 hsz2
  go_wp2_with fail
  refine (byte_N _ _ HFG.out).mono ?_
  rintro e w0 ⟨rfl, rfl⟩
  rcases hw with hw | hw
  all_goals
    go_wp2_with fail
    refine (lives_any _ (HE.out.below HB2.out)).mono ?_
    rintro e WF ⟨rfl, hbf⟩
    go_wp2_with fail
    go_ret
    exact ⟨rfl, HB2.out.trans (hbf.mono HB2.out.size)⟩

set_option maxHeartbeats 8000000 in
theorem tokens_kindn (k : Int) (t : ByteArray) (line col : Int) (left : Bool) (w : World) (hE : Env w) (hs : (t.size : Int) ≤ 300) (h1 : (k == 1) = false) (h2 : (k == 2) = false) (h3 : (k == 3) = false) (hfg : fig t.data.toList = none) :
    Calls Tryd.prog 6 #[.agg #[.int .u8 k, .string t, .int .i64 line, .int .i64 col, .bool left]] w fun e w' => e = .returned (.bool true) ∧ Below w.heap.size w w' := by
  have HE := Lib.hid hE
  have HX : Hid (∀ j, (w.alloc (.cells #[.int .u8 k, .string t, .int .i64 line, .int .i64 col, .bool left] 49)).cell? ⟨w.heap.size, j, none⟩ = (#[.int .u8 k, .string t, .int .i64 line, .int .i64 col, .bool left] : Array Value)[j]?) := fun j => World.cell?_alloc_new _ _ _ _
  clear hE
  have HFG := Lib.hid hfg
  clear hfg
  have hlr : litR k t.data.toList = .error 12 := by
    rw [litR, if_neg (by simpa using h2), if_neg (by simpa using h3), if_neg (by simpa using h1)]
  have HN := Lib.hid (lit_E k t line col left 12 (by omega) hlr)
  clear hlr
  go_enter Tryd.func6, Tryd.ntmps6
  go_wp2_with fail
  refine (HN.out _ (HE.out.below ((Below.refl w.heap.size w).alloc (Nat.le_refl _) _))).mono ?_
  rintro e W1 ⟨rfl, hb1⟩
  have hc1 := fun j => (hb1.cell (p := ⟨w.heap.size, j, none⟩) (by simp)).trans (HX.out j)
  have hz1 : w.heap.size < W1.heap.size := by have := hb1.size; simp at this; omega
  have HB1 := Lib.hid (((Below.refl w.heap.size w).alloc (Nat.le_refl _) _).trans (hb1.mono (by simp)))
  have HC1 := Lib.hid hc1
  clear hb1 hc1
  have HWr := Lib.hid (heap_alloc_new W1 (.cells fieldZ 41 (0, 0)))
  go_wp2_with (refine wpList_store_row rfl _ _ 41 rfl W1.heap.size rfl _ rfl _ _ HWr.out rfl (by kernel_rfl) rfl ?_)
  intro W2 hg2 hgr2 hsz2
  have hcr2 := fun j => cell_of_row W2 _ j _ _ _ hg2
  have hc2 := fun j => (World.cell?_of_block (a := ⟨w.heap.size, j, none⟩) ((hgr2.block w.heap.size (by simp; omega) (by simp; omega)).trans (Below.heap_alloc _ _ _ hz1))).trans (HC1.out j)
  have HB2 := Lib.hid (below_store HB1.out HB1.out.size hgr2)
  clear hg2 hgr2 hsz2
  go_wp2_with fail
  refine (byte_N _ _ HFG.out).mono ?_
  rintro e w0 ⟨rfl, rfl⟩
  go_wp2_with fail
  refine (lives_any _ (HE.out.below HB2.out)).mono ?_
  rintro e WF ⟨rfl, hbf⟩
  go_wp2_with fail
  go_ret
  exact ⟨rfl, HB2.out.trans (hbf.mono HB2.out.size)⟩

set_option maxHeartbeats 8000000 in
theorem tokens_widths (k : Int) (t : ByteArray) (line col : Int) (left : Bool) (w : World) (hE : Env w) (hs : (t.size : Int) ≤ 300) (hk : k = 3) (hw : (t.size : Int) < 1 ∨ 256 < (t.size : Int)) (b : Nat) (hfg : fig t.data.toList = some b) :
    Calls Tryd.prog 6 #[.agg #[.int .u8 k, .string t, .int .i64 line, .int .i64 col, .bool left]] w fun e w' => e = .returned (.bool true) ∧ Below w.heap.size w w' := by
  have HE := Lib.hid hE
  have HX : Hid (∀ j, (w.alloc (.cells #[.int .u8 k, .string t, .int .i64 line, .int .i64 col, .bool left] 49)).cell? ⟨w.heap.size, j, none⟩ = (#[.int .u8 k, .string t, .int .i64 line, .int .i64 col, .bool left] : Array Value)[j]?) := fun j => World.cell?_alloc_new _ _ _ _
  clear hE
  subst hk
  have HFG := Lib.hid hfg
  clear hfg
  have htl := Lib.size_eq t
  have hlr : litR 3 t.data.toList = .error 5 := by
    rw [litR, if_neg (by decide), if_pos rfl, textR, if_pos (by omega)]
  clear htl
  have HN := Lib.hid (lit_E 3 t line col left 5 (by omega) hlr)
  clear hlr
  go_enter Tryd.func6, Tryd.ntmps6
  go_wp2_with fail
  refine (HN.out _ (HE.out.below ((Below.refl w.heap.size w).alloc (Nat.le_refl _) _))).mono ?_
  rintro e W1 ⟨rfl, hb1⟩
  have hc1 := fun j => (hb1.cell (p := ⟨w.heap.size, j, none⟩) (by simp)).trans (HX.out j)
  have hz1 : w.heap.size < W1.heap.size := by have := hb1.size; simp at this; omega
  have HB1 := Lib.hid (((Below.refl w.heap.size w).alloc (Nat.le_refl _) _).trans (hb1.mono (by simp)))
  have HC1 := Lib.hid hc1
  clear hb1 hc1
  have HWr := Lib.hid (heap_alloc_new W1 (.cells fieldZ 41 (0, 0)))
  go_wp2_with (refine wpList_store_row rfl _ _ 41 rfl W1.heap.size rfl _ rfl _ _ HWr.out rfl (by kernel_rfl) rfl ?_)
  intro W2 hg2 hgr2 hsz2
  have hcr2 := fun j => cell_of_row W2 _ j _ _ _ hg2
  have hc2 := fun j => (World.cell?_of_block (a := ⟨w.heap.size, j, none⟩) ((hgr2.block w.heap.size (by simp; omega) (by simp; omega)).trans (Below.heap_alloc _ _ _ hz1))).trans (HC1.out j)
  have HB2 := Lib.hid (below_store HB1.out HB1.out.size hgr2)
  clear hg2 hgr2 hsz2
  go_wp2_with fail
  refine (byte_S _ b _ HFG.out).mono ?_
  rintro e w0 ⟨rfl, rfl⟩
  rcases hw with hw | hw
  all_goals
    go_wp2_with fail
    refine (lives_any _ (HE.out.below HB2.out)).mono ?_
    rintro e WF ⟨rfl, hbf⟩
    go_wp2_with fail
    go_ret
    exact ⟨rfl, HB2.out.trans (hbf.mono HB2.out.size)⟩

set_option maxHeartbeats 8000000 in
theorem tokens_kinds (k : Int) (t : ByteArray) (line col : Int) (left : Bool) (w : World) (hE : Env w) (hs : (t.size : Int) ≤ 300) (h1 : (k == 1) = false) (h2 : (k == 2) = false) (h3 : (k == 3) = false) (b : Nat) (hfg : fig t.data.toList = some b) :
    Calls Tryd.prog 6 #[.agg #[.int .u8 k, .string t, .int .i64 line, .int .i64 col, .bool left]] w fun e w' => e = .returned (.bool true) ∧ Below w.heap.size w w' := by
  have HE := Lib.hid hE
  have HX : Hid (∀ j, (w.alloc (.cells #[.int .u8 k, .string t, .int .i64 line, .int .i64 col, .bool left] 49)).cell? ⟨w.heap.size, j, none⟩ = (#[.int .u8 k, .string t, .int .i64 line, .int .i64 col, .bool left] : Array Value)[j]?) := fun j => World.cell?_alloc_new _ _ _ _
  clear hE
  have HFG := Lib.hid hfg
  clear hfg
  have hlr : litR k t.data.toList = .error 12 := by
    rw [litR, if_neg (by simpa using h2), if_neg (by simpa using h3), if_neg (by simpa using h1)]
  have HN := Lib.hid (lit_E k t line col left 12 (by omega) hlr)
  clear hlr
  go_enter Tryd.func6, Tryd.ntmps6
  go_wp2_with fail
  refine (HN.out _ (HE.out.below ((Below.refl w.heap.size w).alloc (Nat.le_refl _) _))).mono ?_
  rintro e W1 ⟨rfl, hb1⟩
  have hc1 := fun j => (hb1.cell (p := ⟨w.heap.size, j, none⟩) (by simp)).trans (HX.out j)
  have hz1 : w.heap.size < W1.heap.size := by have := hb1.size; simp at this; omega
  have HB1 := Lib.hid (((Below.refl w.heap.size w).alloc (Nat.le_refl _) _).trans (hb1.mono (by simp)))
  have HC1 := Lib.hid hc1
  clear hb1 hc1
  have HWr := Lib.hid (heap_alloc_new W1 (.cells fieldZ 41 (0, 0)))
  go_wp2_with (refine wpList_store_row rfl _ _ 41 rfl W1.heap.size rfl _ rfl _ _ HWr.out rfl (by kernel_rfl) rfl ?_)
  intro W2 hg2 hgr2 hsz2
  have hcr2 := fun j => cell_of_row W2 _ j _ _ _ hg2
  have hc2 := fun j => (World.cell?_of_block (a := ⟨w.heap.size, j, none⟩) ((hgr2.block w.heap.size (by simp; omega) (by simp; omega)).trans (Below.heap_alloc _ _ _ hz1))).trans (HC1.out j)
  have HB2 := Lib.hid (below_store HB1.out HB1.out.size hgr2)
  clear hg2 hgr2 hsz2
  go_wp2_with fail
  refine (byte_S _ b _ HFG.out).mono ?_
  rintro e w0 ⟨rfl, rfl⟩
  go_wp2_with fail
  refine (lives_any _ (HE.out.below HB2.out)).mono ?_
  rintro e WF ⟨rfl, hbf⟩
  go_wp2_with fail
  go_ret
  exact ⟨rfl, HB2.out.trans (hbf.mono HB2.out.size)⟩

set_option maxHeartbeats 8000000 in
theorem tokens_word (k : Int) (t : ByteArray) (line col : Int) (left : Bool) (w : World) (hE : Env w) (hs : (t.size : Int) ≤ 300) (hk : k = 1) (hfg : fig t.data.toList = none) :
    Calls Tryd.prog 6 #[.agg #[.int .u8 k, .string t, .int .i64 line, .int .i64 col, .bool left]] w fun e w' => e = .returned (.bool true) ∧ Below w.heap.size w w' := by
  have HE := Lib.hid hE
  have HX : Hid (∀ j, (w.alloc (.cells #[.int .u8 k, .string t, .int .i64 line, .int .i64 col, .bool left] 49)).cell? ⟨w.heap.size, j, none⟩ = (#[.int .u8 k, .string t, .int .i64 line, .int .i64 col, .bool left] : Array Value)[j]?) := fun j => World.cell?_alloc_new _ _ _ _
  clear hE
  subst hk
  have HFG := Lib.hid hfg
  have hlr : litR 1 t.data.toList = .error 11 := by
    rw [litR, if_neg (by decide), if_neg (by decide), if_pos rfl, hfg]
  clear hfg
  have HN := Lib.hid (lit_E 1 t line col left 11 (by omega) hlr)
  clear hlr
  go_enter Tryd.func6, Tryd.ntmps6
  go_wp2_with fail
  refine (HN.out _ (HE.out.below ((Below.refl w.heap.size w).alloc (Nat.le_refl _) _))).mono ?_
  rintro e W1 ⟨rfl, hb1⟩
  have hc1 := fun j => (hb1.cell (p := ⟨w.heap.size, j, none⟩) (by simp)).trans (HX.out j)
  have hz1 : w.heap.size < W1.heap.size := by have := hb1.size; simp at this; omega
  have HB1 := Lib.hid (((Below.refl w.heap.size w).alloc (Nat.le_refl _) _).trans (hb1.mono (by simp)))
  have HC1 := Lib.hid hc1
  clear hb1 hc1
  have HWr := Lib.hid (heap_alloc_new W1 (.cells fieldZ 41 (0, 0)))
  go_wp2_with (refine wpList_store_row rfl _ _ 41 rfl W1.heap.size rfl _ rfl _ _ HWr.out rfl (by kernel_rfl) rfl ?_)
  intro W2 hg2 hgr2 hsz2
  have hcr2 := fun j => cell_of_row W2 _ j _ _ _ hg2
  have hc2 := fun j => (World.cell?_of_block (a := ⟨w.heap.size, j, none⟩) ((hgr2.block w.heap.size (by simp; omega) (by simp; omega)).trans (Below.heap_alloc _ _ _ hz1))).trans (HC1.out j)
  have HB2 := Lib.hid (below_store HB1.out HB1.out.size hgr2)
  clear hg2 hgr2 hsz2
  go_wp2_with fail
  refine (byte_N _ _ HFG.out).mono ?_
  rintro e w0 ⟨rfl, rfl⟩
  go_wp2_with fail
  refine (lives_any _ (HE.out.below HB2.out)).mono ?_
  rintro e WF ⟨rfl, hbf⟩
  go_wp2_with fail
  go_ret
  exact ⟨rfl, HB2.out.trans (hbf.mono HB2.out.size)⟩

set_option maxHeartbeats 8000000 in
theorem tokens_zero (k : Int) (t : ByteArray) (line col : Int) (left : Bool) (w : World) (hE : Env w) (hs : (t.size : Int) ≤ 300) (hk : k = 1) (hfg : fig t.data.toList = some 48) :
    Calls Tryd.prog 6 #[.agg #[.int .u8 k, .string t, .int .i64 line, .int .i64 col, .bool left]] w fun e w' => e = .returned (.bool true) ∧ Below w.heap.size w w' := by
  have HE := Lib.hid hE
  have HX : Hid (∀ j, (w.alloc (.cells #[.int .u8 k, .string t, .int .i64 line, .int .i64 col, .bool left] 49)).cell? ⟨w.heap.size, j, none⟩ = (#[.int .u8 k, .string t, .int .i64 line, .int .i64 col, .bool left] : Array Value)[j]?) := fun j => World.cell?_alloc_new _ _ _ _
  clear hE
  subst hk
  have HFG := Lib.hid hfg
  have hlr : litR 1 t.data.toList = .ok { cat := 4, pic := [57], digits := 1, scale := 0, signed := false, bytes := [48] } := by
    rw [litR, if_neg (by decide), if_neg (by decide), if_pos rfl, hfg]; kernel_rfl
  clear hfg
  have HN := Lib.hid (lit_K 1 t line col left _ (by omega) hlr)
  clear hlr
  go_enter Tryd.func6, Tryd.ntmps6
  go_wp2_with fail
  refine (HN.out _ (HE.out.below ((Below.refl w.heap.size w).alloc (Nat.le_refl _) _))).mono ?_
  rintro e W1 ⟨A, rfl, hA, hBy, hb1⟩
  have hc1 := fun j => (hb1.cell (p := ⟨w.heap.size, j, none⟩) (by simp)).trans (HX.out j)
  have hz1 : w.heap.size < W1.heap.size := by have := hb1.size; simp at this; omega
  have HB1 := Lib.hid (((Below.refl w.heap.size w).alloc (Nat.le_refl _) _).trans (hb1.mono (by simp)))
  have HC1 := Lib.hid hc1
  have HBy := Lib.hid hBy
  clear hBy
  clear hb1 hc1
  have HWr := Lib.hid (heap_alloc_new W1 (.cells fieldZ 41 (0, 0)))
  go_wp2_with (refine wpList_store_row rfl _ _ 41 rfl W1.heap.size rfl _ rfl _ _ HWr.out rfl (by kernel_rfl) rfl ?_)
  intro W2 hg2 hgr2 hsz2
  have hcr2 := fun j => cell_of_row W2 _ j _ _ _ hg2
  have hc2 := fun j => (World.cell?_of_block (a := ⟨w.heap.size, j, none⟩) ((hgr2.block w.heap.size (by simp; omega) (by simp; omega)).trans (Below.heap_alloc _ _ _ hz1))).trans (HC1.out j)
  have HB2 := Lib.hid (below_store HB1.out HB1.out.size hgr2)
  have HBy2 := Lib.hid ((HBy.out.alloc (.cells fieldZ 41 (0, 0))).same (hgr2.block A (by have := HBy.out.lt; simp; omega) (by have := HBy.out.lt; simp; omega)))
  have hA2 := HBy2.out.cell
  have HA2 := Lib.hid hA2
  clear hA2
  clear hg2 hgr2 hsz2
  go_wp2_with fail
  refine (byte_S _ 48 _ HFG.out).mono ?_
  rintro e w0 ⟨rfl, rfl⟩
  go_wp2_with (refine wpList_str_n rfl _ 39 9 5 rfl A 1 1 ⟨#[48]⟩ rfl Tryd.underlying39 Tryd.underlying5 Tryd.underlying9 rfl _ HBy2.out ?_)
  go_wp2_with fail
  refine (lives_any _ (HE.out.below HB2.out)).mono ?_
  rintro e WF ⟨rfl, hbf⟩
  go_wp2_with fail
  go_ret
  exact ⟨rfl, HB2.out.trans (hbf.mono HB2.out.size)⟩

set_option maxHeartbeats 8000000 in
theorem tokens_fig (k : Int) (t : ByteArray) (line col : Int) (left : Bool) (w : World) (hE : Env w) (hs : (t.size : Int) ≤ 300) (hk : k = 1) (b : UInt8) (hb48 : ((b.toNat : Int) == 48) = false) (hfg : fig t.data.toList = some b.toNat) :
    Calls Tryd.prog 6 #[.agg #[.int .u8 k, .string t, .int .i64 line, .int .i64 col, .bool left]] w fun e w' => e = .returned (.bool true) ∧ Below w.heap.size w w' := by
  have HE := Lib.hid hE
  have HX : Hid (∀ j, (w.alloc (.cells #[.int .u8 k, .string t, .int .i64 line, .int .i64 col, .bool left] 49)).cell? ⟨w.heap.size, j, none⟩ = (#[.int .u8 k, .string t, .int .i64 line, .int .i64 col, .bool left] : Array Value)[j]?) := fun j => World.cell?_alloc_new _ _ _ _
  clear hE
  subst hk
  have HFG := Lib.hid hfg
  have hne : ¬ b.toNat = 48 := by intro e; rw [e] at hb48; exact absurd hb48 (by decide)
  have hlr : litR 1 t.data.toList = .ok { cat := 2, pic := [88], digits := 0, scale := 0, signed := false, bytes := [b] } := by
    rw [litR, if_neg (by decide), if_neg (by decide), if_pos rfl, hfg]
    simp only [if_neg hne]
    have : UInt8.ofNat b.toNat = b := by simp
    rw [this]; rfl
  clear hfg hne
  have HN := Lib.hid (lit_K 1 t line col left _ (by omega) hlr)
  clear hlr
  go_enter Tryd.func6, Tryd.ntmps6
  go_wp2_with fail
  refine (HN.out _ (HE.out.below ((Below.refl w.heap.size w).alloc (Nat.le_refl _) _))).mono ?_
  rintro e W1 ⟨A, rfl, hA, hBy, hb1⟩
  have hc1 := fun j => (hb1.cell (p := ⟨w.heap.size, j, none⟩) (by simp)).trans (HX.out j)
  have hz1 : w.heap.size < W1.heap.size := by have := hb1.size; simp at this; omega
  have HB1 := Lib.hid (((Below.refl w.heap.size w).alloc (Nat.le_refl _) _).trans (hb1.mono (by simp)))
  have HC1 := Lib.hid hc1
  have HBy := Lib.hid hBy
  clear hBy
  clear hb1 hc1
  have HWr := Lib.hid (heap_alloc_new W1 (.cells fieldZ 41 (0, 0)))
  go_wp2_with (refine wpList_store_row rfl _ _ 41 rfl W1.heap.size rfl _ rfl _ _ HWr.out rfl (by kernel_rfl) rfl ?_)
  intro W2 hg2 hgr2 hsz2
  have hcr2 := fun j => cell_of_row W2 _ j _ _ _ hg2
  have hc2 := fun j => (World.cell?_of_block (a := ⟨w.heap.size, j, none⟩) ((hgr2.block w.heap.size (by simp; omega) (by simp; omega)).trans (Below.heap_alloc _ _ _ hz1))).trans (HC1.out j)
  have HB2 := Lib.hid (below_store HB1.out HB1.out.size hgr2)
  have HBy2 := Lib.hid ((HBy.out.alloc (.cells fieldZ 41 (0, 0))).same (hgr2.block A (by have := HBy.out.lt; simp; omega) (by have := HBy.out.lt; simp; omega)))
  have hA2 := HBy2.out.cell
  have HA2 := Lib.hid hA2
  clear hA2
  clear hg2 hgr2 hsz2
  go_wp2_with fail
  refine (byte_S _ b.toNat _ HFG.out).mono ?_
  rintro e w0 ⟨rfl, rfl⟩
  have hcb : W2.cell? ⟨A, 0, none⟩ = some (.int .u8 (b.toNat : Int)) := HA2.out 0 (by simp)
  go_wp2_with fail
  refine (lives_any _ (HE.out.below HB2.out)).mono ?_
  rintro e WF ⟨rfl, hbf⟩
  go_wp2_with fail
  go_ret
  exact ⟨rfl, HB2.out.trans (hbf.mono HB2.out.size)⟩
end Go.Proofs.YtphofgokcfdobaaDoor
