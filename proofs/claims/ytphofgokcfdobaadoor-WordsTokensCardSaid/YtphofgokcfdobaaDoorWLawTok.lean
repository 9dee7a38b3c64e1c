/- The law WordsTokens returns true for every token. -/
import Derived.Test.YtphofgokcfdobaaDoorWTokA
namespace Go.Proofs.YtphofgokcfdobaaDoor
open Go.RowKit Go.Shelf
set_option maxRecDepth 100000

theorem rep_S (S : World → Prop) (hst : ∀ w w', S w → Below w.heap.size w w' → S w') (b : UInt8) (n : Nat) (w : World) (hn : n ≤ 1000000) (hS : S w) :
    Calls Tryd.prog 15 #[.string ⟨#[b]⟩, .int .i64 n] w fun e w' => e = .returned (.string ⟨(List.replicate n b).toArray⟩) ∧ S w' :=
  (repeat1_any b n w hn).mono fun _ w' ⟨he, hb⟩ => ⟨he, hst w w' hS hb⟩
theorem lives_S (S : World → Prop) (hst : ∀ w w', S w → Below w.heap.size w w' → S w') (w : World) (hE : Env w) (hS : S w) :
    Calls Tryd.prog 9 #[] w fun e w' => e = .returned (.bool true) ∧ S w' :=
  (lives_any w hE).mono fun _ w' ⟨he, hb⟩ => ⟨he, hst w w' hS hb⟩

/-- What stays behind the calls of the last statement: the token's cells, the field's, its bytes; the library's variables; what was there. -/
def Stay (w0 : World) (g gf A : Nat) (T R : Array Value) (t : ByteArray) (w : World) : Prop :=
  (∀ j, w.cell? ⟨g, j, none⟩ = T[j]?) ∧ (∀ j, w.cell? ⟨gf, j, none⟩ = R[j]?) ∧ BytesAt w 5 A t.data.toList ∧ g < w.heap.size ∧ gf < w.heap.size ∧ Env w ∧ Below w0.heap.size w0 w
theorem Stay.below {w0 : World} {g gf A : Nat} {T R : Array Value} {t : ByteArray} (w w' : World) (h : Stay w0 g gf A T R t w) (hb : Below w.heap.size w w') : Stay w0 g gf A T R t w' := by
  obtain ⟨h1, h2, h3, h4, h5, h6, h7⟩ := h
  exact ⟨fun j => (hb.cell (p := ⟨g, j, none⟩) h4).trans (h1 j), fun j => (hb.cell (p := ⟨gf, j, none⟩) h5).trans (h2 j), h3.below hb h3.lt, Nat.lt_of_lt_of_le h4 hb.size, Nat.lt_of_lt_of_le h5 hb.size, h6.below hb, h7.trans (hb.mono h7.size)⟩
/-- .. as the walk reads it. -/
def Seen (w0 : World) (g gf A : Nat) (T R : Array Value) (t : ByteArray) (w : World) : Prop :=
  (∀ j, w.cell? ⟨g, j, none⟩ = T[j]?) ∧ (∀ j, w.cell? ⟨gf, j, none⟩ = R[j]?) ∧ (convert 39 9 (.slice (some ⟨A, 0, none⟩) t.size t.size)).run Tryd.prog w = .ok (.string t) w ∧ Hid (Stay w0 g gf A T R t w)
theorem Seen.of {w0 : World} {g gf A : Nat} {T R : Array Value} {t : ByteArray} {w : World} (h : Stay w0 g gf A T R t w) : Seen w0 g gf A T R t w := by
  have h3 := h.2.2.1.str (P := Tryd.prog) 39 9 5 t.size Tryd.underlying39 Tryd.underlying5 Tryd.underlying9
  rw [← Lib.size_eq] at h3
  exact ⟨h.1, h.2.1, h3, h⟩
theorem rep_T {w0 : World} {g gf A : Nat} {T R : Array Value} {t : ByteArray} (b : UInt8) (n : Nat) (w : World) (hn : n ≤ 1000000) (hS : Hid (Stay w0 g gf A T R t w)) :
    Calls Tryd.prog 15 #[.string ⟨#[b]⟩, .int .i64 n] w fun e w' => e = .returned (.string ⟨(List.replicate n b).toArray⟩) ∧ Seen w0 g gf A T R t w' :=
  (rep_S (Stay w0 g gf A T R t) Stay.below b n w hn hS).mono fun _ _ ⟨he, h⟩ => ⟨he, Seen.of h⟩
theorem lives_T {w0 : World} {g gf A : Nat} {T R : Array Value} {t : ByteArray} (w : World) (hS : Hid (Stay w0 g gf A T R t w)) :
    Calls Tryd.prog 9 #[] w fun e w' => e = .returned (.bool true) ∧ Seen w0 g gf A T R t w' :=
  (lives_S (Stay w0 g gf A T R t) Stay.below w (Hid.out hS).2.2.2.2.2.1 hS).mono fun _ _ ⟨he, h⟩ => ⟨he, Seen.of h⟩

theorem text_K (t : ByteArray) (line col : Int) (left : Bool) (hs : t.size ≤ 100000) (h : litR 3 t.data.toList = .ok { cat := 2, pic := List.replicate t.size 88, digits := 0, scale := 0, signed := false, bytes := t.data.toList }) :
    ∀ w, Env w → Calls Tryd.prog 16 #[.agg #[.int .u8 3, .string t, .int .i64 line, .int .i64 col, .bool left]] w fun e w' => ∃ A, e = .returned (.tuple #[.agg #[.int .u8 2, .int .u8 0, .string ⟨(List.replicate t.size 88).toArray⟩, .int .i64 0, .int .i64 0, .bool false, .bool false, .bool false, .bool false, .bool false, .int .i64 t.size, .slice (some ⟨A, 0, none⟩) t.size t.size], .int .i64 0]) ∧
      w.heap.size ≤ A ∧ BytesAt w' 5 A t.data.toList ∧ Below w.heap.size w w' := fun w hE =>
  (lit_K 3 t line col left _ hs h w hE).mono fun e w' ⟨A, he, hA, hB, hb⟩ => ⟨A, by
    rw [he]; simp only [fieldV]; rw [← Lib.size_eq]; rfl, hA, hB, hb⟩

set_option maxHeartbeats 16000000 in
theorem tokens_textn (t : ByteArray) (line col : Int) (left : Bool) (w : World) (hE : Env w) (h1 : 1 ≤ (t.size : Int)) (h2 : (t.size : Int) ≤ 256) (hfg : fig t.data.toList = none) :
    Calls Tryd.prog 6 #[.agg #[.int .u8 3, .string t, .int .i64 line, .int .i64 col, .bool left]] w fun e w' => e = .returned (.bool true) ∧ Below w.heap.size w w' := by
  have HE := Lib.hid hE
  have HX : Hid (∀ j, (w.alloc (.cells #[.int .u8 3, .string t, .int .i64 line, .int .i64 col, .bool left] 49)).cell? ⟨w.heap.size, j, none⟩ = (#[.int .u8 3, .string t, .int .i64 line, .int .i64 col, .bool left] : Array Value)[j]?) := fun j => World.cell?_alloc_new _ _ _ _
  clear hE
  have HFG := Lib.hid hfg
  clear hfg
  have htl := Lib.size_eq t
  have hlr : litR 3 t.data.toList = .ok { cat := 2, pic := List.replicate t.size 88, digits := 0, scale := 0, signed := false, bytes := t.data.toList } := by
    rw [litR, if_neg (by decide), if_pos rfl, textR, if_neg (by omega), ← htl]
  have hn2 : t.size ≤ 1000000 := by omega
  have HN := Lib.hid (text_K t line col left (by omega) hlr)
  clear hlr htl
  go_enter Tryd.func6, Tryd.ntmps6
  go_wp2_with fail
  refine (HN.out _ (HE.out.below ((Below.refl w.heap.size w).alloc (Nat.le_refl _) _))).mono ?_
  rintro e W1 ⟨A, rfl, hA, hBy, hb1⟩
  have hc1 := fun j => (hb1.cell (p := ⟨w.heap.size, j, none⟩) (by simp)).trans (HX.out j)
  have hz1 : w.heap.size < W1.heap.size := by have := hb1.size; simp at this; omega
  have HB1 := Lib.hid (((Below.refl w.heap.size w).alloc (Nat.le_refl _) _).trans (hb1.mono (by simp)))
  have HC1 := Lib.hid hc1
  have HBy := Lib.hid hBy
  clear hBy
  clear hb1 hc1
  have HWr := Lib.hid (heap_alloc_new W1 (.cells fieldZ 41 (0, 0)))
  go_wp2_with (refine wpList_store_row rfl _ _ 41 rfl W1.heap.size rfl _ rfl _ _ HWr.out rfl (by kernel_rfl) rfl ?_)
  intro W2 hg2 hgr2 hsz2
  have hcr2 := fun j => cell_of_row W2 _ j _ _ _ hg2
  have hc2 := fun j => (World.cell?_of_block (a := ⟨w.heap.size, j, none⟩) ((hgr2.block w.heap.size (by simp; omega) (by simp; omega)).trans (Below.heap_alloc _ _ _ hz1))).trans (HC1.out j)
  have HB2 := Lib.hid (below_store HB1.out HB1.out.size hgr2)
  have HBy2 := Lib.hid ((HBy.out.alloc (.cells fieldZ 41 (0, 0))).same (hgr2.block A (by have := HBy.out.lt; simp; omega) (by have := HBy.out.lt; simp; omega)))
  have hA2 := HBy2.out.cell
  have HA2 := Lib.hid hA2
  clear hA2
  have hst : Stay w w.heap.size W1.heap.size A (#[.int .u8 3, .string t, .int .i64 line, .int .i64 col, .bool left] : Array Value) (#[.int .u8 2, .int .u8 0, .string ⟨(List.replicate t.size 88).toArray⟩, .int .i64 0, .int .i64 0, .bool false, .bool false, .bool false, .bool false, .bool false, .int .i64 t.size, .slice (some ⟨A, 0, none⟩) t.size t.size] : Array Value) t W2 := ⟨hc2, hcr2, HBy2.out, by omega, by omega, HE.out.below HB2.out, HB2.out⟩
  have HST := Lib.hid hst
  clear hg2 hgr2 hsz2 hst
  go_wp2_with fail
  refine (byte_N _ _ HFG.out).mono ?_
  rintro e w0 ⟨rfl, rfl⟩
  go_upto_region 8 with fail
  have hS := Seen.of (Stay.below W2 W2.drew HST.out (Below.refl _ _).drew)
  go_region_held3 (fun w' => (∀ j, w'.cell? ⟨w.heap.size, j, none⟩ = (#[.int .u8 3, .string t, .int .i64 line, .int .i64 col, .bool left] : Array Value)[j]?) ∧ (∀ j, w'.cell? ⟨W1.heap.size, j, none⟩ = (#[.int .u8 2, .int .u8 0, .string ⟨(List.replicate t.size 88).toArray⟩, .int .i64 0, .int .i64 0, .bool false, .bool false, .bool false, .bool false, .bool false, .int .i64 t.size, .slice (some ⟨A, 0, none⟩) t.size t.size] : Array Value)[j]?) ∧ (convert 39 9 (.slice (some ⟨A, 0, none⟩) t.size t.size)).run Tryd.prog w' = .ok (.string t) w' ∧ Hid (Stay w w.heap.size W1.heap.size A (#[.int .u8 3, .string t, .int .i64 line, .int .i64 col, .bool left] : Array Value) (#[.int .u8 2, .int .u8 0, .string ⟨(List.replicate t.size 88).toArray⟩, .int .i64 0, .int .i64 0, .bool false, .bool false, .bool false, .bool false, .bool false, .int .i64 t.size, .slice (some ⟨A, 0, none⟩) t.size t.size] : Array Value) t w')) (exact hS)
    (first
      | (go_at_call 15; refine (rep_T _ _ _ hn2 hS.2.2.2).mono ?_; rintro e w' ⟨rfl, hS⟩)
      | (go_at_call 9; refine (lives_T _ hS.2.2.2).mono ?_; rintro e w' ⟨rfl, hS⟩))
  all_goals
    go_wp2_with fail
    go_ret
    exact ⟨rfl, (Hid.out hS.2.2.2).2.2.2.2.2.2⟩

set_option maxHeartbeats 16000000 in
theorem tokens_texts (t : ByteArray) (line col : Int) (left : Bool) (w : World) (hE : Env w) (h1 : 1 ≤ (t.size : Int)) (h2 : (t.size : Int) ≤ 256) (b : Nat) (hfg : fig t.data.toList = some b) :
    Calls Tryd.prog 6 #[.agg #[.int .u8 3, .string t, .int .i64 line, .int .i64 col, .bool left]] w fun e w' => e = .returned (.bool true) ∧ Below w.heap.size w w' := by
  have HE := Lib.hid hE
  have HX : Hid (∀ j, (w.alloc (.cells #[.int .u8 3, .string t, .int .i64 line, .int .i64 col, .bool left] 49)).cell? ⟨w.heap.size, j, none⟩ = (#[.int .u8 3, .string t, .int .i64 line, .int .i64 col, .bool left] : Array Value)[j]?) := fun j => World.cell?_alloc_new _ _ _ _
  clear hE
  have HFG := Lib.hid hfg
  clear hfg
  have htl := Lib.size_eq t
  have hlr : litR 3 t.data.toList = .ok { cat := 2, pic := List.replicate t.size 88, digits := 0, scale := 0, signed := false, bytes := t.data.toList } := by
    rw [litR, if_neg (by decide), if_pos rfl, textR, if_neg (by omega), ← htl]
  have hn2 : t.size ≤ 1000000 := by omega
  have HN := Lib.hid (text_K t line col left (by omega) hlr)
  clear hlr htl
  go_enter Tryd.func6, Tryd.ntmps6
  go_wp2_with fail
  refine (HN.out _ (HE.out.below ((Below.refl w.heap.size w).alloc (Nat.le_refl _) _))).mono ?_
  rintro e W1 ⟨A, rfl, hA, hBy, hb1⟩
  have hc1 := fun j => (hb1.cell (p := ⟨w.heap.size, j, none⟩) (by simp)).trans (HX.out j)
  have hz1 : w.heap.size < W1.heap.size := by have := hb1.size; simp at this; omega
  have HB1 := Lib.hid (((Below.refl w.heap.size w).alloc (Nat.le_refl _) _).trans (hb1.mono (by simp)))
  have HC1 := Lib.hid hc1
  have HBy := Lib.hid hBy
  clear hBy
  clear hb1 hc1
  have HWr := Lib.hid (heap_alloc_new W1 (.cells fieldZ 41 (0, 0)))
  go_wp2_with (refine wpList_store_row rfl _ _ 41 rfl W1.heap.size rfl _ rfl _ _ HWr.out rfl (by kernel_rfl) rfl ?_)
  intro W2 hg2 hgr2 hsz2
  have hcr2 := fun j => cell_of_row W2 _ j _ _ _ hg2
  have hc2 := fun j => (World.cell?_of_block (a := ⟨w.heap.size, j, none⟩) ((hgr2.block w.heap.size (by simp; omega) (by simp; omega)).trans (Below.heap_alloc _ _ _ hz1))).trans (HC1.out j)
  have HB2 := Lib.hid (below_store HB1.out HB1.out.size hgr2)
  have HBy2 := Lib.hid ((HBy.out.alloc (.cells fieldZ 41 (0, 0))).same (hgr2.block A (by have := HBy.out.lt; simp; omega) (by have := HBy.out.lt; simp; omega)))
  have hA2 := HBy2.out.cell
  have HA2 := Lib.hid hA2
  clear hA2
  have hst : Stay w w.heap.size W1.heap.size A (#[.int .u8 3, .string t, .int .i64 line, .int .i64 col, .bool left] : Array Value) (#[.int .u8 2, .int .u8 0, .string ⟨(List.replicate t.size 88).toArray⟩, .int .i64 0, .int .i64 0, .bool false, .bool false, .bool false, .bool false, .bool false, .int .i64 t.size, .slice (some ⟨A, 0, none⟩) t.size t.size] : Array Value) t W2 := ⟨hc2, hcr2, HBy2.out, by omega, by omega, HE.out.below HB2.out, HB2.out⟩
  have HST := Lib.hid hst
  clear hg2 hgr2 hsz2 hst
  go_wp2_with fail
  refine (byte_S _ b _ HFG.out).mono ?_
  rintro e w0 ⟨rfl, rfl⟩
  go_upto_region 8 with fail
  have hS := Seen.of (Stay.below W2 W2.drew HST.out (Below.refl _ _).drew)
  go_region_held3 (fun w' => (∀ j, w'.cell? ⟨w.heap.size, j, none⟩ = (#[.int .u8 3, .string t, .int .i64 line, .int .i64 col, .bool left] : Array Value)[j]?) ∧ (∀ j, w'.cell? ⟨W1.heap.size, j, none⟩ = (#[.int .u8 2, .int .u8 0, .string ⟨(List.replicate t.size 88).toArray⟩, .int .i64 0, .int .i64 0, .bool false, .bool false, .bool false, .bool false, .bool false, .int .i64 t.size, .slice (some ⟨A, 0, none⟩) t.size t.size] : Array Value)[j]?) ∧ (convert 39 9 (.slice (some ⟨A, 0, none⟩) t.size t.size)).run Tryd.prog w' = .ok (.string t) w' ∧ Hid (Stay w w.heap.size W1.heap.size A (#[.int .u8 3, .string t, .int .i64 line, .int .i64 col, .bool left] : Array Value) (#[.int .u8 2, .int .u8 0, .string ⟨(List.replicate t.size 88).toArray⟩, .int .i64 0, .int .i64 0, .bool false, .bool false, .bool false, .bool false, .bool false, .int .i64 t.size, .slice (some ⟨A, 0, none⟩) t.size t.size] : Array Value) t w')) (exact hS)
    (first
      | (go_at_call 15; refine (rep_T _ _ _ hn2 hS.2.2.2).mono ?_; rintro e w' ⟨rfl, hS⟩)
      | (go_at_call 9; refine (lives_T _ hS.2.2.2).mono ?_; rintro e w' ⟨rfl, hS⟩))
  all_goals
    go_wp2_with fail
    go_ret
    exact ⟨rfl, (Hid.out hS.2.2.2).2.2.2.2.2.2⟩

theorem wordsTokens_any (k : Nat) (t : ByteArray) (line col : Int) (left : Bool) (w : World) (hE : Env w) (_hk : k < 256) (ht : t.size ≤ maxLen) :
    Calls Tryd.prog 6 #[.agg #[.int .u8 k, .string t, .int .i64 line, .int .i64 col, .bool left]] w fun e w' => e = .returned (.bool true) ∧ Below w.heap.size w w' := by
  have _ := ht
  by_cases hs : 300 < (t.size : Int)
  · exact tokens_long k t line col left w hE hs
  have hs : (t.size : Int) ≤ 300 := by omega
  by_cases h2 : k = 2
  · subst h2; exact tokens_num 2 t line col left w hE hs rfl
  by_cases h3 : k = 3
  · subst h3
    by_cases hw : (t.size : Int) < 1 ∨ 256 < (t.size : Int)
    · rcases hf : fig t.data.toList with _ | b
      · exact tokens_widthn 3 t line col left w hE hs rfl hw hf
      · exact tokens_widths 3 t line col left w hE hs rfl hw b hf
    · rcases hf : fig t.data.toList with _ | b
      · exact tokens_textn t line col left w hE (by omega) (by omega) hf
      · exact tokens_texts t line col left w hE (by omega) (by omega) b hf
  by_cases h1 : k = 1
  · subst h1
    rcases hf : fig t.data.toList with _ | b
    · exact tokens_word 1 t line col left w hE hs rfl hf
    · by_cases hb : b = 48
      · subst hb; exact tokens_zero 1 t line col left w hE hs rfl hf
      · have hlt := fig_lt _ _ hf
        have e : (UInt8.ofNat b).toNat = b := by rw [UInt8.toNat_ofNat']; exact Nat.mod_eq_of_lt hlt
        exact tokens_fig 1 t line col left w hE hs rfl (UInt8.ofNat b) (by rw [e]; simp; omega) (by rw [e]; exact hf)
  · have g1 : (((k : Nat) : Int) == 1) = false := by simp; omega
    have g2 : (((k : Nat) : Int) == 2) = false := by simp; omega
    have g3 : (((k : Nat) : Int) == 3) = false := by simp; omega
    rcases hf : fig t.data.toList with _ | b
    · exact tokens_kindn k t line col left w hE hs g1 g2 g3 hf
    · exact tokens_kinds k t line col left w hE hs g1 g2 g3 b hf
end Go.Proofs.YtphofgokcfdobaaDoor
