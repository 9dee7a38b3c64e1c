/- The law WordsValue returns true for every text. -/
import Derived.Test.YtphofgokcfdobaaDoorWLives
import Derived.Test.YtphofgokcfdobaaDoorWLitP
import Derived.Test.YtphofgokcfdobaaDoorWTokA
import Derived.Test.YtphofgokcfdobaaDoorBytes2
import Derived.Deep.QuietTactic
import Derived.BigQuiet
namespace Go.Proofs.YtphofgokcfdobaaDoor
open Go.RowKit Go.Shelf
set_option maxRecDepth 100000

theorem BytesAt.left {w : World} {e A : Nat} {l r : List UInt8} (h : BytesAt w e A (l ++ r)) : BytesAt w e A l := by
  obtain ⟨C, m, h1, h2, h3⟩ := h
  refine ⟨C, m, h1, by simp at h2; omega, fun j hj => ?_⟩
  have := h3 j (by simp; omega)
  rw [this, List.getElem_append_left hj]
namespace WP
theorem numR_inv (l : List UInt8) (f : Fld) (h : numR l = .ok f) : ∃ W P : List UInt8, allDig W = true ∧ allDig P = true ∧ (W ≠ [] ∨ P ≠ []) ∧ W.length + P.length ≤ 18 ∧ (l = body W P ∨ ∃ c : UInt8, (c = 43 ∨ c = 45) ∧ l = c :: body W P) := by
  unfold numR at h
  split at h
  · cases h
  rename_i hb
  split at h
  · cases h
  rename_i hl
  simp only [not_or] at hb
  obtain ⟨hb1, hb2, hb3⟩ := hb
  have hd : isDigs (nDigs l) = true := by simpa using hb2
  have hr : l = nRest l ∨ ∃ c : UInt8, (c = 43 ∨ c = 45) ∧ l = c :: nRest l := by
    cases l with
    | nil => exact .inl nRest_nil.symm
    | cons b t =>
      by_cases hs : isSgn b = true
      · right
        simp [isSgn] at hs
        rcases hs with rfl | rfl
        · cases t with
          | nil => exact ⟨43, .inl rfl, by rw [nRest_plus, trim0]⟩
          | cons c u =>
            by_cases hc : c = 45
            · subst hc
              rw [nRest_plus, trim1, if_pos rfl] at hb1
              simp at hb1
              omega
            · exact ⟨43, .inl rfl, by rw [nRest_plus, trim1, if_neg hc]⟩
        · exact ⟨45, .inr rfl, by rw [nRest_minus]⟩
      · exact .inl (nRest_plain b t (by simpa using hs)).symm
  have hbody : ∃ W P : List UInt8, nCut l = (W, P, !P.isEmpty) ∧ nRest l = body W P := by
    rcases dot_split (nRest l) with hn | ⟨W, P, e, hn⟩
    · refine ⟨nRest l, [], ?_, rfl⟩
      unfold nCut; rw [cut_miss _ hn]; rfl
    · have hc : nCut l = (W, P, true) := by unfold nCut; rw [e, cut_hit W P hn]
      have hP : P ≠ [] := by
        intro hp; apply hb3; rw [hc]; exact ⟨rfl, hp⟩
      refine ⟨W, P, ?_, ?_⟩
      · rw [hc]
        have : P.isEmpty = false := by simpa using hP
        rw [this]; rfl
      · rw [e, body, if_neg hP]
  obtain ⟨W, P, hc, hbd⟩ := hbody
  have hdg : nDigs l = W ++ P := by unfold nDigs; rw [hc]
  rw [hdg] at hd hl
  unfold isDigs at hd
  rw [allDig_app, Bool.and_eq_true, Bool.and_eq_true] at hd
  refine ⟨W, P, hd.2.1, hd.2.2, ?_, by simp at hl; omega, ?_⟩
  · by_cases h1 : W = []
    · right; intro h2; rw [h1, h2] at hd; simp at hd
    · exact .inl h1
  · rw [← hbd]; exact hr
theorem numR_err (l : List UInt8) (c : Int) (h : numR l = .error c) : c = 4 ∨ c = 5 := by
  unfold numR at h
  split at h
  · injection h with h; exact .inl h.symm
  · split at h
    · injection h with h; exact .inr h.symm
    · cases h
/-- What the tables say of a byte. -/
theorem tab_dig (y : UInt8) (h1 : 48 ≤ (y.toNat : Int)) (h2 : (y.toNat : Int) ≤ 57) : Lib.indexByte plusT y = -1 ∧ Lib.indexByte minusT y = -1 := by
  have H : ∀ k : Fin 10, Lib.indexByte plusT (UInt8.ofNat (48 + k.val)) = -1 ∧ Lib.indexByte minusT (UInt8.ofNat (48 + k.val)) = -1 := by decide
  have e : y = UInt8.ofNat (48 + (y.toNat - 48)) := by
    have : 48 + (y.toNat - 48) = y.toNat := by omega
    rw [this]; simp
  have := H ⟨y.toNat - 48, by omega⟩
  rw [e]; exact this
theorem tab_plus (x y : UInt8) (h1 : 48 ≤ (x.toNat : Int)) (h2 : (x.toNat : Int) ≤ 57) (hy : y = plusT.getD (x.toNat - 48) 0) : Lib.indexByte plusT y = (x.toNat : Int) - 48 ∧ Lib.indexByte minusT y = -1 := by
  have H : ∀ k : Fin 10, Lib.indexByte plusT (plusT.getD k.val 0) = (k.val : Int) ∧ Lib.indexByte minusT (plusT.getD k.val 0) = -1 := by decide
  have := H ⟨x.toNat - 48, by omega⟩
  rw [hy, this.1]; exact ⟨by simp; omega, this.2⟩
theorem tab_minus (x y : UInt8) (h1 : 48 ≤ (x.toNat : Int)) (h2 : (x.toNat : Int) ≤ 57) (hy : y = minusT.getD (x.toNat - 48) 0) : Lib.indexByte plusT y = -1 ∧ Lib.indexByte minusT y = (x.toNat : Int) - 48 := by
  have H : ∀ k : Fin 10, Lib.indexByte plusT (minusT.getD k.val 0) = -1 ∧ Lib.indexByte minusT (minusT.getD k.val 0) = (k.val : Int) := by decide
  have := H ⟨x.toNat - 48, by omega⟩
  rw [hy, this.2]; exact ⟨this.1, by simp; omega⟩
end WP
theorem contains_c (c : ByteArray) (y : UInt8) (i : Int) (b : Bool) (w : World) (h : Lib.indexByte c.data.toList y = i) (hb : decide (0 ≤ i) = b) :
    Calls Tryd.prog 17 #[.string c, .string ⟨#[y]⟩] w fun e w' => e = .returned (.bool b) ∧ w = w' := by
  rw [← hb, ← h]
  exact (Tryd.strings_Contains_one c y w).mono fun _ _ ⟨h1, h2⟩ => ⟨h1, h2.symm⟩
theorem index_c (c : ByteArray) (y : UInt8) (i : Int) (w : World) (h : Lib.indexByte c.data.toList y = i) :
    Calls Tryd.prog 18 #[.string c, .string ⟨#[y]⟩] w fun e w' => e = .returned (.int .i64 i) ∧ w = w' := by
  rw [← h]
  exact (Tryd.strings_Index_one c y w).mono fun _ _ ⟨h1, h2⟩ => ⟨h1, h2.symm⟩

theorem below_drw {B : Nat} {a b : World} (h : Below B a b) (n : Nat) : Below B a (b.drewN n) := ⟨h.os, h.tape, h.output, h.size, h.block⟩
theorem litv_plain (s PIC : ByteArray) (W P : List UInt8) (n m : Nat) (w : World) (hE : Env w) (hss : s.size ≤ 100000) (hs : s.data.toList = WP.body W P) (hp : PIC.data.toList = WP.pic W P)
    (hW : allDig W = true) (hP : allDig P = true) (hn : W ≠ [] ∨ P ≠ []) (hl : W.length + P.length ≤ 18) (h1 : W.length + P.length = n) (h2 : P.length = m) :
    Calls Tryd.prog 16 #[.agg #[.int .u8 2, .string s, .int .i64 0, .int .i64 0, .bool false]] w fun e w' => ∃ A, e = .returned (.tuple #[.agg #[.int .u8 4, .int .u8 0, .string PIC, .int .i64 n, .int .i64 m, .bool false, .bool false, .bool false, .bool false, .bool false, .int .i64 n, .slice (some ⟨A, 0, none⟩) n n], .int .i64 0]) ∧
      w.heap.size ≤ A ∧ BytesAt w' 5 A (W ++ P) ∧ Below w.heap.size w w' := by
  have hr0 := WP.numR_plain W P hW hP hn hl
  rw [← hs] at hr0
  have hr := (show litR 2 s.data.toList = numR s.data.toList by rw [litR, if_pos rfl]).trans hr0
  refine (lit_ok 2 s _ w hE hss hr).mono fun e w' ⟨A, he, hA, hB, hb⟩ => ⟨A, ?_, hA, hB, hb⟩
  have e2 : (W ++ P).length = n := by rw [List.length_append, h1]
  rw [he, ← h2, ← h1]
  simp only [fieldV, List.length_append]
  rw [← hp]
theorem litv_signed (c : UInt8) (hc : c = 43 ∨ c = 45) (s PIC : ByteArray) (W P : List UInt8) (n m : Nat) (w : World) (hE : Env w) (hss : s.size ≤ 100000) (hs : s.data.toList = c :: WP.body W P) (hp : PIC.data.toList = 83 :: WP.pic W P)
    (hW : allDig W = true) (hP : allDig P = true) (hn : W ≠ [] ∨ P ≠ []) (hl : W.length + P.length ≤ 18) (h1 : W.length + P.length = n) (h2 : P.length = m) :
    Calls Tryd.prog 16 #[.agg #[.int .u8 2, .string s, .int .i64 0, .int .i64 0, .bool false]] w fun e w' => ∃ A, e = .returned (.tuple #[.agg #[.int .u8 4, .int .u8 0, .string PIC, .int .i64 n, .int .i64 m, .bool true, .bool false, .bool false, .bool false, .bool false, .int .i64 n, .slice (some ⟨A, 0, none⟩) n n], .int .i64 0]) ∧
      w.heap.size ≤ A ∧ BytesAt w' 5 A (overpunch (c == 45) (W ++ P)) ∧ Below w.heap.size w w' := by
  have hr0 := WP.numR_signed c hc W P hW hP hn hl
  rw [← hs] at hr0
  have hr := (show litR 2 s.data.toList = numR s.data.toList by rw [litR, if_pos rfl]).trans hr0
  have hpos : 1 ≤ (W ++ P).length := by
    rcases hn with h | h
    · have := List.length_pos_iff.2 h; simp; omega
    · have := List.length_pos_iff.2 h; simp; omega
  refine (lit_ok 2 s _ w hE hss hr).mono fun e w' ⟨A, he, hA, hB, hb⟩ => ⟨A, ?_, hA, hB, hb⟩
  have e2 : (overpunch (c == 45) (W ++ P)).length = n := by rw [overpunch_len _ _ hpos, List.length_append, h1]
  rw [he, ← h2, ← h1]
  simp only [fieldV, e2, ← h1]
  rw [← hp]


set_option maxHeartbeats 4000000 in
theorem wordsValue_big (s : ByteArray) (w : World) (hE : Env w) (h : 40 < (s.size : Int)) :
    Calls Tryd.prog 7 #[.string s] w fun e w' => e = .returned (.bool true) ∧ Below w.heap.size w w' := by
  have HE := Lib.hid hE
  clear hE
  go_enter Tryd.func7, Tryd.ntmps7
  go_wp2_with fail
  refine (lives_any _ HE.out).mono ?_
  rintro e WF ⟨rfl, hbf⟩
  go_wp2_with fail
  go_ret
  exact ⟨rfl, hbf⟩

set_option maxHeartbeats 4000000 in
theorem value_err (s : ByteArray) (w : World) (hE : Env w) (h : (s.size : Int) ≤ 40) (c : Int) (hr : numR s.data.toList = .error c) :
    Calls Tryd.prog 7 #[.string s] w fun e w' => e = .returned (.bool true) ∧ Below w.heap.size w w' := by
  have HN := Lib.hid (lit_E 2 s 0 0 false c (by omega) (by rw [litR, if_pos rfl, hr]))
  have hc := WP.numR_err _ _ hr
  have HE := Lib.hid hE
  clear hE hr
  rcases hc with rfl | rfl
  all_goals
    go_enter Tryd.func7, Tryd.ntmps7
    go_wp2_with fail
    refine (HN.out _ HE.out).mono ?_
    rintro e W1 ⟨rfl, hb1⟩
    have HB1 := Lib.hid hb1
    clear hb1
    have HWr := Lib.hid (heap_alloc_new W1 (.cells fieldZ 41 (0, 0)))
    go_wp2_with (refine wpList_store_row rfl _ _ 41 rfl W1.heap.size rfl _ rfl _ _ HWr.out rfl (by kernel_rfl) rfl ?_)
    intro W2 hg2 hgr2 hsz2
    have hcr2 := fun j => cell_of_row W2 _ j _ _ _ hg2
    have HB2 := Lib.hid (below_store HB1.out HB1.out.size hgr2)
    clear hg2 hgr2 hsz2
    go_wp2_with fail
    refine (lives_any _ (HE.out.below HB2.out)).mono ?_
    rintro e WF ⟨rfl, hbf⟩
    go_wp2_with fail
    go_ret
    exact ⟨rfl, HB2.out.trans (hbf.mono HB2.out.size)⟩

set_option maxHeartbeats 8000000 in
theorem value_u (s T0 TT PIC : ByteArray) (y : UInt8) (k d : Nat) (w : World) (hE : Env w) (h : (s.size : Int) ≤ 40) (hk : T0.size = k) (hk2 : k ≤ 17) 
    (HN : Hid (∀ w, Env w → Calls Tryd.prog 16 #[.agg #[.int .u8 2, .string s, .int .i64 0, .int .i64 0, .bool false]] w fun e w' => ∃ A, e = .returned (.tuple #[.agg #[.int .u8 4, .int .u8 0, .string PIC, .int .i64 (k + 1 : Nat), .int .i64 (0 : Nat), .bool false, .bool false, .bool false, .bool false, .bool false, .int .i64 (k + 1 : Nat), .slice (some ⟨A, 0, none⟩) (k + 1) (k + 1)], .int .i64 0]) ∧ w.heap.size ≤ A ∧ BytesAt w' 5 A (T0.data.toList ++ [y]) ∧ Below w.heap.size w w'))
    (hd : d < 10) (hp : Lib.indexByte plusT y = -1) (hq : Lib.indexByte minusT y = -1) (HT : Hid (T0 ++ ⟨#[y]⟩ = TT)) (HTZ : Hid (TT.size = k + 1)) (HF : Hid (TT = s)) :
    Calls Tryd.prog 7 #[.string s] w fun e w' => e = .returned (.bool true) ∧ Below w.heap.size w w' := by
  have HE := Lib.hid hE
  have HP := Lib.hid hp
  have HQ := Lib.hid hq
  have HK := Lib.hid hk
  have hT0z : T0.size ≤ 17 := by omega
  have hz0 : (((k : Int) + 1) == 0) = false := by simp; omega
  clear hE hp hq hk
  go_enter Tryd.func7, Tryd.ntmps7
  go_wp2_with fail
  refine (HN.out _ HE.out).mono ?_
  rintro e W1 ⟨A, rfl, hA, hBy, hb1⟩
  have HB1 := Lib.hid hb1
  have HBy := Lib.hid hBy
  clear hb1 hBy
  have HWr := Lib.hid (heap_alloc_new W1 (.cells fieldZ 41 (0, 0)))
  go_wp2_with (refine wpList_store_row rfl _ _ 41 rfl W1.heap.size rfl _ rfl _ _ HWr.out rfl (by kernel_rfl) rfl ?_)
  intro W2 hg2 hgr2 hsz2
  have hcr2 := fun j => cell_of_row W2 _ j _ _ _ hg2
  have HB2 := Lib.hid (below_store HB1.out HB1.out.size hgr2)
  have HBy2 := Lib.hid ((HBy.out.alloc (.cells fieldZ 41 (0, 0))).same (hgr2.block A (by have := HBy.out.lt; simp; omega) (by have := HBy.out.lt; simp; omega)))
  clear hg2 hgr2 hsz2
  have HC2 : Hid (∀ j (h : j < [y].length), W2.cell? ⟨A, k + j, none⟩ = some (.int .u8 ([y][j].toNat : Int))) := fun j hj => by
    obtain rfl : j = 0 := by simpa using hj
    have hkl : T0.data.toList.length = k := by rw [← Lib.size_eq]; exact HK.out
    have := HBy2.out.cell k (by rw [List.length_append, hkl]; simp)
    rw [Nat.add_zero, this]
    simp [hkl]
  go_wp2_with (first
    | (refine wpList_str_n rfl _ 39 9 5 rfl A _ k T0 rfl Tryd.underlying39 Tryd.underlying5 Tryd.underlying9 (by rw [← Lib.size_eq]; exact HK.out) _ HBy2.out.left ?_)
    | (refine wpList_str_of rfl _ 39 9 5 rfl A k _ [y] rfl Tryd.underlying39 Tryd.underlying5 Tryd.underlying9 HC2.out ?_))
  go_wp2_with fail
  refine (contains_c ⟨#[123, 65, 66, 67, 68, 69, 70, 71, 72, 73]⟩ y (-1) false _ HP.out (by decide)).mono ?_; rintro e w0 ⟨rfl, rfl⟩
  go_wp2_with fail
  refine (contains_c ⟨#[125, 74, 75, 76, 77, 78, 79, 80, 81, 82]⟩ y (-1) false _ HQ.out (by decide)).mono ?_; rintro e w0 ⟨rfl, rfl⟩
  go_upto_region 19 with fail
  rw [HT.out]
  have hTTz : TT.size ≤ 18 := by have := HTZ.out; omega
  rw [HF.out]
  go_wp2_with fail
  refine (lives_any _ (HE.out.below HB2.out)).mono ?_
  rintro e WF ⟨rfl, hbf⟩
  go_wp2_with fail
  go_ret
  exact ⟨rfl, HB2.out.trans (hbf.mono HB2.out.size)⟩

set_option maxHeartbeats 8000000 in
theorem value_up (s T0 TT PIC : ByteArray) (y : UInt8) (k d : Nat) (m : Nat) (w : World) (hE : Env w) (h : (s.size : Int) ≤ 40) (hk : T0.size = k) (hk2 : k ≤ 17) (hm : m ≤ k + 1) (hm1 : 1 ≤ m) 
    (HN : Hid (∀ w, Env w → Calls Tryd.prog 16 #[.agg #[.int .u8 2, .string s, .int .i64 0, .int .i64 0, .bool false]] w fun e w' => ∃ A, e = .returned (.tuple #[.agg #[.int .u8 4, .int .u8 0, .string PIC, .int .i64 (k + 1 : Nat), .int .i64 (m : Nat), .bool false, .bool false, .bool false, .bool false, .bool false, .int .i64 (k + 1 : Nat), .slice (some ⟨A, 0, none⟩) (k + 1) (k + 1)], .int .i64 0]) ∧ w.heap.size ≤ A ∧ BytesAt w' 5 A (T0.data.toList ++ [y]) ∧ Below w.heap.size w w'))
    (hd : d < 10) (hp : Lib.indexByte plusT y = -1) (hq : Lib.indexByte minusT y = -1) (HT : Hid (T0 ++ ⟨#[y]⟩ = TT)) (HTZ : Hid (TT.size = k + 1)) (HF : Hid ((TT.extract 0 (k + 1 - m) ++ (⟨#[46]⟩ : ByteArray) ++ TT.extract (k + 1 - m) TT.size) = s)) :
    Calls Tryd.prog 7 #[.string s] w fun e w' => e = .returned (.bool true) ∧ Below w.heap.size w w' := by
  have HE := Lib.hid hE
  have HP := Lib.hid hp
  have HQ := Lib.hid hq
  have HK := Lib.hid hk
  have hT0z : T0.size ≤ 17 := by omega
  have hz0 : (((k : Int) + 1) == 0) = false := by simp; omega
  clear hE hp hq hk
  go_enter Tryd.func7, Tryd.ntmps7
  go_wp2_with fail
  refine (HN.out _ HE.out).mono ?_
  rintro e W1 ⟨A, rfl, hA, hBy, hb1⟩
  have HB1 := Lib.hid hb1
  have HBy := Lib.hid hBy
  clear hb1 hBy
  have HWr := Lib.hid (heap_alloc_new W1 (.cells fieldZ 41 (0, 0)))
  go_wp2_with (refine wpList_store_row rfl _ _ 41 rfl W1.heap.size rfl _ rfl _ _ HWr.out rfl (by kernel_rfl) rfl ?_)
  intro W2 hg2 hgr2 hsz2
  have hcr2 := fun j => cell_of_row W2 _ j _ _ _ hg2
  have HB2 := Lib.hid (below_store HB1.out HB1.out.size hgr2)
  have HBy2 := Lib.hid ((HBy.out.alloc (.cells fieldZ 41 (0, 0))).same (hgr2.block A (by have := HBy.out.lt; simp; omega) (by have := HBy.out.lt; simp; omega)))
  clear hg2 hgr2 hsz2
  have HC2 : Hid (∀ j (h : j < [y].length), W2.cell? ⟨A, k + j, none⟩ = some (.int .u8 ([y][j].toNat : Int))) := fun j hj => by
    obtain rfl : j = 0 := by simpa using hj
    have hkl : T0.data.toList.length = k := by rw [← Lib.size_eq]; exact HK.out
    have := HBy2.out.cell k (by rw [List.length_append, hkl]; simp)
    rw [Nat.add_zero, this]
    simp [hkl]
  go_wp2_with (first
    | (refine wpList_str_n rfl _ 39 9 5 rfl A _ k T0 rfl Tryd.underlying39 Tryd.underlying5 Tryd.underlying9 (by rw [← Lib.size_eq]; exact HK.out) _ HBy2.out.left ?_)
    | (refine wpList_str_of rfl _ 39 9 5 rfl A k _ [y] rfl Tryd.underlying39 Tryd.underlying5 Tryd.underlying9 HC2.out ?_))
  go_wp2_with fail
  refine (contains_c ⟨#[123, 65, 66, 67, 68, 69, 70, 71, 72, 73]⟩ y (-1) false _ HP.out (by decide)).mono ?_; rintro e w0 ⟨rfl, rfl⟩
  go_wp2_with fail
  refine (contains_c ⟨#[125, 74, 75, 76, 77, 78, 79, 80, 81, 82]⟩ y (-1) false _ HQ.out (by decide)).mono ?_; rintro e w0 ⟨rfl, rfl⟩
  go_upto_region 18 with fail
  rw [HT.out]
  have hTTz : TT.size ≤ 18 := by have := HTZ.out; omega
  have hw1 : IntKind.i64.wrap ((k : Int) + 1 - (m : Int)) = (k : Int) + 1 - (m : Int) := IntWalk.i64_in _ (by omega)
  have hw2 : 0 ≤ (k : Int) + 1 - (m : Int) := by omega
  have hw3 : ((k : Int) + 1 - (m : Int)).toNat = k + 1 - m := by omega
  have hw4 : (k : Int) + 1 - (m : Int) ≤ (TT.size : Int) := by have := HTZ.out; omega
  have hw5 : k + 1 - m ≤ TT.size := by have := HTZ.out; omega
  go_quiet (fail)
  clear hw1 hw2 hw3 hw4 hw5
  rw [HF.out]
  have HBQ := Lib.hid (below_drw HB2.out nq)
  go_wp2_with fail
  refine (lives_any _ (HE.out.below HBQ.out)).mono ?_
  rintro e WF ⟨rfl, hbf⟩
  go_wp2_with fail
  go_ret
  exact ⟨rfl, HBQ.out.trans (hbf.mono HBQ.out.size)⟩

set_option maxHeartbeats 8000000 in
theorem value_p (s T0 TT PIC : ByteArray) (y : UInt8) (k d : Nat) (w : World) (hE : Env w) (h : (s.size : Int) ≤ 40) (hk : T0.size = k) (hk2 : k ≤ 17) 
    (HN : Hid (∀ w, Env w → Calls Tryd.prog 16 #[.agg #[.int .u8 2, .string s, .int .i64 0, .int .i64 0, .bool false]] w fun e w' => ∃ A, e = .returned (.tuple #[.agg #[.int .u8 4, .int .u8 0, .string PIC, .int .i64 (k + 1 : Nat), .int .i64 (0 : Nat), .bool true, .bool false, .bool false, .bool false, .bool false, .int .i64 (k + 1 : Nat), .slice (some ⟨A, 0, none⟩) (k + 1) (k + 1)], .int .i64 0]) ∧ w.heap.size ≤ A ∧ BytesAt w' 5 A (T0.data.toList ++ [y]) ∧ Below w.heap.size w w'))
    (hd : d < 10) (hp : Lib.indexByte plusT y = (d : Int)) (hq : Lib.indexByte minusT y = -1) (HT : Hid (T0 ++ ((⟨#[48, 49, 50, 51, 52, 53, 54, 55, 56, 57]⟩ : ByteArray).extract d 10).extract 0 1 = TT)) (HTZ : Hid (TT.size = k + 1)) (HF : Hid ((⟨#[43]⟩ : ByteArray) ++ TT = s)) :
    Calls Tryd.prog 7 #[.string s] w fun e w' => e = .returned (.bool true) ∧ Below w.heap.size w w' := by
  have HE := Lib.hid hE
  have HP := Lib.hid hp
  have HQ := Lib.hid hq
  have HK := Lib.hid hk
  have hT0z : T0.size ≤ 17 := by omega
  have hz0 : (((k : Int) + 1) == 0) = false := by simp; omega
  clear hE hp hq hk
  go_enter Tryd.func7, Tryd.ntmps7
  go_wp2_with fail
  refine (HN.out _ HE.out).mono ?_
  rintro e W1 ⟨A, rfl, hA, hBy, hb1⟩
  have HB1 := Lib.hid hb1
  have HBy := Lib.hid hBy
  clear hb1 hBy
  have HWr := Lib.hid (heap_alloc_new W1 (.cells fieldZ 41 (0, 0)))
  go_wp2_with (refine wpList_store_row rfl _ _ 41 rfl W1.heap.size rfl _ rfl _ _ HWr.out rfl (by kernel_rfl) rfl ?_)
  intro W2 hg2 hgr2 hsz2
  have hcr2 := fun j => cell_of_row W2 _ j _ _ _ hg2
  have HB2 := Lib.hid (below_store HB1.out HB1.out.size hgr2)
  have HBy2 := Lib.hid ((HBy.out.alloc (.cells fieldZ 41 (0, 0))).same (hgr2.block A (by have := HBy.out.lt; simp; omega) (by have := HBy.out.lt; simp; omega)))
  clear hg2 hgr2 hsz2
  have HC2 : Hid (∀ j (h : j < [y].length), W2.cell? ⟨A, k + j, none⟩ = some (.int .u8 ([y][j].toNat : Int))) := fun j hj => by
    obtain rfl : j = 0 := by simpa using hj
    have hkl : T0.data.toList.length = k := by rw [← Lib.size_eq]; exact HK.out
    have := HBy2.out.cell k (by rw [List.length_append, hkl]; simp)
    rw [Nat.add_zero, this]
    simp [hkl]
  go_wp2_with (first
    | (refine wpList_str_n rfl _ 39 9 5 rfl A _ k T0 rfl Tryd.underlying39 Tryd.underlying5 Tryd.underlying9 (by rw [← Lib.size_eq]; exact HK.out) _ HBy2.out.left ?_)
    | (refine wpList_str_of rfl _ 39 9 5 rfl A k _ [y] rfl Tryd.underlying39 Tryd.underlying5 Tryd.underlying9 HC2.out ?_))
  go_wp2_with fail
  refine (contains_c ⟨#[123, 65, 66, 67, 68, 69, 70, 71, 72, 73]⟩ y (d : Int) true _ HP.out (decide_eq_true (by omega))).mono ?_; rintro e w0 ⟨rfl, rfl⟩
  go_wp2_with fail
  refine (index_c ⟨#[123, 65, 66, 67, 68, 69, 70, 71, 72, 73]⟩ y (d : Int) _ HP.out).mono ?_; rintro e w0 ⟨rfl, rfl⟩
  go_upto_region 19 with fail
  rw [HT.out]
  have hTTz : TT.size ≤ 18 := by have := HTZ.out; omega
  have hf := HF.out
  go_wp2_with fail
  refine (lives_any _ (HE.out.below HB2.out)).mono ?_
  rintro e WF ⟨rfl, hbf⟩
  go_wp2_with fail
  go_ret
  exact ⟨rfl, HB2.out.trans (hbf.mono HB2.out.size)⟩

set_option maxHeartbeats 8000000 in
theorem value_pp (s T0 TT PIC : ByteArray) (y : UInt8) (k d : Nat) (m : Nat) (w : World) (hE : Env w) (h : (s.size : Int) ≤ 40) (hk : T0.size = k) (hk2 : k ≤ 17) (hm : m ≤ k + 1) (hm1 : 1 ≤ m) 
    (HN : Hid (∀ w, Env w → Calls Tryd.prog 16 #[.agg #[.int .u8 2, .string s, .int .i64 0, .int .i64 0, .bool false]] w fun e w' => ∃ A, e = .returned (.tuple #[.agg #[.int .u8 4, .int .u8 0, .string PIC, .int .i64 (k + 1 : Nat), .int .i64 (m : Nat), .bool true, .bool false, .bool false, .bool false, .bool false, .int .i64 (k + 1 : Nat), .slice (some ⟨A, 0, none⟩) (k + 1) (k + 1)], .int .i64 0]) ∧ w.heap.size ≤ A ∧ BytesAt w' 5 A (T0.data.toList ++ [y]) ∧ Below w.heap.size w w'))
    (hd : d < 10) (hp : Lib.indexByte plusT y = (d : Int)) (hq : Lib.indexByte minusT y = -1) (HT : Hid (T0 ++ ((⟨#[48, 49, 50, 51, 52, 53, 54, 55, 56, 57]⟩ : ByteArray).extract d 10).extract 0 1 = TT)) (HTZ : Hid (TT.size = k + 1)) (HF : Hid ((⟨#[43]⟩ : ByteArray) ++ (TT.extract 0 (k + 1 - m) ++ (⟨#[46]⟩ : ByteArray) ++ TT.extract (k + 1 - m) TT.size) = s)) :
    Calls Tryd.prog 7 #[.string s] w fun e w' => e = .returned (.bool true) ∧ Below w.heap.size w w' := by
  have HE := Lib.hid hE
  have HP := Lib.hid hp
  have HQ := Lib.hid hq
  have HK := Lib.hid hk
  have hT0z : T0.size ≤ 17 := by omega
  have hz0 : (((k : Int) + 1) == 0) = false := by simp; omega
  clear hE hp hq hk
  go_enter Tryd.func7, Tryd.ntmps7
  go_wp2_with fail
  refine (HN.out _ HE.out).mono ?_
  rintro e W1 ⟨A, rfl, hA, hBy, hb1⟩
  have HB1 := Lib.hid hb1
  have HBy := Lib.hid hBy
  clear hb1 hBy
  have HWr := Lib.hid (heap_alloc_new W1 (.cells fieldZ 41 (0, 0)))
  go_wp2_with (refine wpList_store_row rfl _ _ 41 rfl W1.heap.size rfl _ rfl _ _ HWr.out rfl (by kernel_rfl) rfl ?_)
  intro W2 hg2 hgr2 hsz2
  have hcr2 := fun j => cell_of_row W2 _ j _ _ _ hg2
  have HB2 := Lib.hid (below_store HB1.out HB1.out.size hgr2)
  have HBy2 := Lib.hid ((HBy.out.alloc (.cells fieldZ 41 (0, 0))).same (hgr2.block A (by have := HBy.out.lt; simp; omega) (by have := HBy.out.lt; simp; omega)))
  clear hg2 hgr2 hsz2
  have HC2 : Hid (∀ j (h : j < [y].length), W2.cell? ⟨A, k + j, none⟩ = some (.int .u8 ([y][j].toNat : Int))) := fun j hj => by
    obtain rfl : j = 0 := by simpa using hj
    have hkl : T0.data.toList.length = k := by rw [← Lib.size_eq]; exact HK.out
    have := HBy2.out.cell k (by rw [List.length_append, hkl]; simp)
    rw [Nat.add_zero, this]
    simp [hkl]
  go_wp2_with (first
    | (refine wpList_str_n rfl _ 39 9 5 rfl A _ k T0 rfl Tryd.underlying39 Tryd.underlying5 Tryd.underlying9 (by rw [← Lib.size_eq]; exact HK.out) _ HBy2.out.left ?_)
    | (refine wpList_str_of rfl _ 39 9 5 rfl A k _ [y] rfl Tryd.underlying39 Tryd.underlying5 Tryd.underlying9 HC2.out ?_))
  go_wp2_with fail
  refine (contains_c ⟨#[123, 65, 66, 67, 68, 69, 70, 71, 72, 73]⟩ y (d : Int) true _ HP.out (decide_eq_true (by omega))).mono ?_; rintro e w0 ⟨rfl, rfl⟩
  go_wp2_with fail
  refine (index_c ⟨#[123, 65, 66, 67, 68, 69, 70, 71, 72, 73]⟩ y (d : Int) _ HP.out).mono ?_; rintro e w0 ⟨rfl, rfl⟩
  go_upto_region 18 with fail
  rw [HT.out]
  have hTTz : TT.size ≤ 18 := by have := HTZ.out; omega
  have hw1 : IntKind.i64.wrap ((k : Int) + 1 - (m : Int)) = (k : Int) + 1 - (m : Int) := IntWalk.i64_in _ (by omega)
  have hw2 : 0 ≤ (k : Int) + 1 - (m : Int) := by omega
  have hw3 : ((k : Int) + 1 - (m : Int)).toNat = k + 1 - m := by omega
  have hw4 : (k : Int) + 1 - (m : Int) ≤ (TT.size : Int) := by have := HTZ.out; omega
  have hw5 : k + 1 - m ≤ TT.size := by have := HTZ.out; omega
  go_quiet (fail)
  clear hw1 hw2 hw3 hw4 hw5
  have hf := HF.out
  have HBQ := Lib.hid (below_drw HB2.out nq)
  go_wp2_with fail
  refine (lives_any _ (HE.out.below HBQ.out)).mono ?_
  rintro e WF ⟨rfl, hbf⟩
  go_wp2_with fail
  go_ret
  exact ⟨rfl, HBQ.out.trans (hbf.mono HBQ.out.size)⟩

set_option maxHeartbeats 8000000 in
theorem value_m (s T0 TT PIC : ByteArray) (y : UInt8) (k d : Nat) (w : World) (hE : Env w) (h : (s.size : Int) ≤ 40) (hk : T0.size = k) (hk2 : k ≤ 17) 
    (HN : Hid (∀ w, Env w → Calls Tryd.prog 16 #[.agg #[.int .u8 2, .string s, .int .i64 0, .int .i64 0, .bool false]] w fun e w' => ∃ A, e = .returned (.tuple #[.agg #[.int .u8 4, .int .u8 0, .string PIC, .int .i64 (k + 1 : Nat), .int .i64 (0 : Nat), .bool true, .bool false, .bool false, .bool false, .bool false, .int .i64 (k + 1 : Nat), .slice (some ⟨A, 0, none⟩) (k + 1) (k + 1)], .int .i64 0]) ∧ w.heap.size ≤ A ∧ BytesAt w' 5 A (T0.data.toList ++ [y]) ∧ Below w.heap.size w w'))
    (hd : d < 10) (hp : Lib.indexByte plusT y = -1) (hq : Lib.indexByte minusT y = (d : Int)) (HT : Hid (T0 ++ ((⟨#[48, 49, 50, 51, 52, 53, 54, 55, 56, 57]⟩ : ByteArray).extract d 10).extract 0 1 = TT)) (HTZ : Hid (TT.size = k + 1)) (HF : Hid ((⟨#[45]⟩ : ByteArray) ++ TT = s)) :
    Calls Tryd.prog 7 #[.string s] w fun e w' => e = .returned (.bool true) ∧ Below w.heap.size w w' := by
  have HE := Lib.hid hE
  have HP := Lib.hid hp
  have HQ := Lib.hid hq
  have HK := Lib.hid hk
  have hT0z : T0.size ≤ 17 := by omega
  have hz0 : (((k : Int) + 1) == 0) = false := by simp; omega
  clear hE hp hq hk
  go_enter Tryd.func7, Tryd.ntmps7
  go_wp2_with fail
  refine (HN.out _ HE.out).mono ?_
  rintro e W1 ⟨A, rfl, hA, hBy, hb1⟩
  have HB1 := Lib.hid hb1
  have HBy := Lib.hid hBy
  clear hb1 hBy
  have HWr := Lib.hid (heap_alloc_new W1 (.cells fieldZ 41 (0, 0)))
  go_wp2_with (refine wpList_store_row rfl _ _ 41 rfl W1.heap.size rfl _ rfl _ _ HWr.out rfl (by kernel_rfl) rfl ?_)
  intro W2 hg2 hgr2 hsz2
  have hcr2 := fun j => cell_of_row W2 _ j _ _ _ hg2
  have HB2 := Lib.hid (below_store HB1.out HB1.out.size hgr2)
  have HBy2 := Lib.hid ((HBy.out.alloc (.cells fieldZ 41 (0, 0))).same (hgr2.block A (by have := HBy.out.lt; simp; omega) (by have := HBy.out.lt; simp; omega)))
  clear hg2 hgr2 hsz2
  have HC2 : Hid (∀ j (h : j < [y].length), W2.cell? ⟨A, k + j, none⟩ = some (.int .u8 ([y][j].toNat : Int))) := fun j hj => by
    obtain rfl : j = 0 := by simpa using hj
    have hkl : T0.data.toList.length = k := by rw [← Lib.size_eq]; exact HK.out
    have := HBy2.out.cell k (by rw [List.length_append, hkl]; simp)
    rw [Nat.add_zero, this]
    simp [hkl]
  go_wp2_with (first
    | (refine wpList_str_n rfl _ 39 9 5 rfl A _ k T0 rfl Tryd.underlying39 Tryd.underlying5 Tryd.underlying9 (by rw [← Lib.size_eq]; exact HK.out) _ HBy2.out.left ?_)
    | (refine wpList_str_of rfl _ 39 9 5 rfl A k _ [y] rfl Tryd.underlying39 Tryd.underlying5 Tryd.underlying9 HC2.out ?_))
  go_wp2_with fail
  refine (contains_c ⟨#[123, 65, 66, 67, 68, 69, 70, 71, 72, 73]⟩ y (-1) false _ HP.out (by decide)).mono ?_; rintro e w0 ⟨rfl, rfl⟩
  go_wp2_with fail
  refine (contains_c ⟨#[125, 74, 75, 76, 77, 78, 79, 80, 81, 82]⟩ y (d : Int) true _ HQ.out (decide_eq_true (by omega))).mono ?_; rintro e w0 ⟨rfl, rfl⟩
  go_wp2_with fail
  refine (index_c ⟨#[125, 74, 75, 76, 77, 78, 79, 80, 81, 82]⟩ y (d : Int) _ HQ.out).mono ?_; rintro e w0 ⟨rfl, rfl⟩
  go_upto_region 19 with fail
  rw [HT.out]
  have hTTz : TT.size ≤ 18 := by have := HTZ.out; omega
  have hf := HF.out
  go_wp2_with fail
  refine (lives_any _ (HE.out.below HB2.out)).mono ?_
  rintro e WF ⟨rfl, hbf⟩
  go_wp2_with fail
  go_ret
  exact ⟨rfl, HB2.out.trans (hbf.mono HB2.out.size)⟩

set_option maxHeartbeats 8000000 in
theorem value_mp (s T0 TT PIC : ByteArray) (y : UInt8) (k d : Nat) (m : Nat) (w : World) (hE : Env w) (h : (s.size : Int) ≤ 40) (hk : T0.size = k) (hk2 : k ≤ 17) (hm : m ≤ k + 1) (hm1 : 1 ≤ m) 
    (HN : Hid (∀ w, Env w → Calls Tryd.prog 16 #[.agg #[.int .u8 2, .string s, .int .i64 0, .int .i64 0, .bool false]] w fun e w' => ∃ A, e = .returned (.tuple #[.agg #[.int .u8 4, .int .u8 0, .string PIC, .int .i64 (k + 1 : Nat), .int .i64 (m : Nat), .bool true, .bool false, .bool false, .bool false, .bool false, .int .i64 (k + 1 : Nat), .slice (some ⟨A, 0, none⟩) (k + 1) (k + 1)], .int .i64 0]) ∧ w.heap.size ≤ A ∧ BytesAt w' 5 A (T0.data.toList ++ [y]) ∧ Below w.heap.size w w'))
    (hd : d < 10) (hp : Lib.indexByte plusT y = -1) (hq : Lib.indexByte minusT y = (d : Int)) (HT : Hid (T0 ++ ((⟨#[48, 49, 50, 51, 52, 53, 54, 55, 56, 57]⟩ : ByteArray).extract d 10).extract 0 1 = TT)) (HTZ : Hid (TT.size = k + 1)) (HF : Hid ((⟨#[45]⟩ : ByteArray) ++ (TT.extract 0 (k + 1 - m) ++ (⟨#[46]⟩ : ByteArray) ++ TT.extract (k + 1 - m) TT.size) = s)) :
    Calls Tryd.prog 7 #[.string s] w fun e w' => e = .returned (.bool true) ∧ Below w.heap.size w w' := by
  have HE := Lib.hid hE
  have HP := Lib.hid hp
  have HQ := Lib.hid hq
  have HK := Lib.hid hk
  have hT0z : T0.size ≤ 17 := by omega
  have hz0 : (((k : Int) + 1) == 0) = false := by simp; omega
  clear hE hp hq hk
  go_enter Tryd.func7, Tryd.ntmps7
  go_wp2_with fail
  refine (HN.out _ HE.out).mono ?_
  rintro e W1 ⟨A, rfl, hA, hBy, hb1⟩
  have HB1 := Lib.hid hb1
  have HBy := Lib.hid hBy
  clear hb1 hBy
  have HWr := Lib.hid (heap_alloc_new W1 (.cells fieldZ 41 (0, 0)))
  go_wp2_with (refine wpList_store_row rfl _ _ 41 rfl W1.heap.size rfl _ rfl _ _ HWr.out rfl (by kernel_rfl) rfl ?_)
  intro W2 hg2 hgr2 hsz2
  have hcr2 := fun j => cell_of_row W2 _ j _ _ _ hg2
  have HB2 := Lib.hid (below_store HB1.out HB1.out.size hgr2)
  have HBy2 := Lib.hid ((HBy.out.alloc (.cells fieldZ 41 (0, 0))).same (hgr2.block A (by have := HBy.out.lt; simp; omega) (by have := HBy.out.lt; simp; omega)))
  clear hg2 hgr2 hsz2
  have HC2 : Hid (∀ j (h : j < [y].length), W2.cell? ⟨A, k + j, none⟩ = some (.int .u8 ([y][j].toNat : Int))) := fun j hj => by
    obtain rfl : j = 0 := by simpa using hj
    have hkl : T0.data.toList.length = k := by rw [← Lib.size_eq]; exact HK.out
    have := HBy2.out.cell k (by rw [List.length_append, hkl]; simp)
    rw [Nat.add_zero, this]
    simp [hkl]
  go_wp2_with (first
    | (refine wpList_str_n rfl _ 39 9 5 rfl A _ k T0 rfl Tryd.underlying39 Tryd.underlying5 Tryd.underlying9 (by rw [← Lib.size_eq]; exact HK.out) _ HBy2.out.left ?_)
    | (refine wpList_str_of rfl _ 39 9 5 rfl A k _ [y] rfl Tryd.underlying39 Tryd.underlying5 Tryd.underlying9 HC2.out ?_))
  go_wp2_with fail
  refine (contains_c ⟨#[123, 65, 66, 67, 68, 69, 70, 71, 72, 73]⟩ y (-1) false _ HP.out (by decide)).mono ?_; rintro e w0 ⟨rfl, rfl⟩
  go_wp2_with fail
  refine (contains_c ⟨#[125, 74, 75, 76, 77, 78, 79, 80, 81, 82]⟩ y (d : Int) true _ HQ.out (decide_eq_true (by omega))).mono ?_; rintro e w0 ⟨rfl, rfl⟩
  go_wp2_with fail
  refine (index_c ⟨#[125, 74, 75, 76, 77, 78, 79, 80, 81, 82]⟩ y (d : Int) _ HQ.out).mono ?_; rintro e w0 ⟨rfl, rfl⟩
  go_upto_region 18 with fail
  rw [HT.out]
  have hTTz : TT.size ≤ 18 := by have := HTZ.out; omega
  have hw1 : IntKind.i64.wrap ((k : Int) + 1 - (m : Int)) = (k : Int) + 1 - (m : Int) := IntWalk.i64_in _ (by omega)
  have hw2 : 0 ≤ (k : Int) + 1 - (m : Int) := by omega
  have hw3 : ((k : Int) + 1 - (m : Int)).toNat = k + 1 - m := by omega
  have hw4 : (k : Int) + 1 - (m : Int) ≤ (TT.size : Int) := by have := HTZ.out; omega
  have hw5 : k + 1 - m ≤ TT.size := by have := HTZ.out; omega
  go_quiet (fail)
  clear hw1 hw2 hw3 hw4 hw5
  have hf := HF.out
  have HBQ := Lib.hid (below_drw HB2.out nq)
  go_wp2_with fail
  refine (lives_any _ (HE.out.below HBQ.out)).mono ?_
  rintro e WF ⟨rfl, hbf⟩
  go_wp2_with fail
  go_ret
  exact ⟨rfl, HBQ.out.trans (hbf.mono HBQ.out.size)⟩

theorem dig_str (x : UInt8) (h1 : 48 ≤ (x.toNat : Int)) (h2 : (x.toNat : Int) ≤ 57) : (((⟨#[48, 49, 50, 51, 52, 53, 54, 55, 56, 57]⟩ : ByteArray).extract (x.toNat - 48) 10).extract 0 1).data.toList = [x] := by
  rw [Lib.extract_data, Lib.extract_data]
  have H : ∀ k : Fin 10, ((([48, 49, 50, 51, 52, 53, 54, 55, 56, 57] : List UInt8).drop k.val).take (10 - k.val)).take 1 = [UInt8.ofNat (48 + k.val)] := by decide
  have := H ⟨x.toNat - 48, by omega⟩
  have e : UInt8.ofNat (48 + (x.toNat - 48)) = x := by
    have : 48 + (x.toNat - 48) = x.toNat := by omega
    rw [this]; simp
  simp only [List.drop_zero, Nat.sub_zero]
  exact this.trans (by rw [e])
/-- A number's text is again what is read. -/
theorem join_body (TT s : ByteArray) (W P pre : List UInt8) (hT : TT.data.toList = W ++ P) (hs : s.data.toList = pre ++ WP.body W P) (hP : P ≠ []) : (⟨pre.toArray⟩ : ByteArray) ++ (TT.extract 0 (W.length + P.length - P.length) ++ (⟨#[46]⟩ : ByteArray) ++ TT.extract (W.length + P.length - P.length) TT.size) = s := by
  apply ba_ext
  rw [data_app', data_app', data_app', Lib.extract_data, Lib.extract_data, hT, hs, WP.body, if_neg hP, Lib.size_eq, hT]
  have e : W.length + P.length - P.length = W.length := by omega
  rw [e]
  simp

theorem wordsValue_small (s : ByteArray) (w : World) (hE : Env w) (h : (s.size : Int) ≤ 40) :
    Calls Tryd.prog 7 #[.string s] w fun e w' => e = .returned (.bool true) ∧ Below w.heap.size w w' := by
  cases hr : numR s.data.toList with
  | error c => exact value_err s w hE h c hr
  | ok f =>
    obtain ⟨W, P, hW, hP, hn, hl, hs⟩ := WP.numR_inv _ _ hr
    clear hr
    have hne : W ++ P ≠ [] := by
      intro e; rw [List.append_eq_nil_iff] at e; rcases hn with h | h
      · exact h e.1
      · exact h e.2
    obtain ⟨D0, x, hD⟩ : ∃ D0 x, W ++ P = D0 ++ [x] := by
      rcases List.eq_nil_or_concat (W ++ P) with h | ⟨t, x, h⟩
      · exact absurd h hne
      · exact ⟨t, x, by rw [h, List.concat_eq_append]⟩
    have hxd : isDig x = true := by
      have : allDig (W ++ P) = true := by rw [WP.allDig_app, hW, hP]; rfl
      rw [hD, WP.allDig_app, Bool.and_eq_true] at this
      have h2 := this.2
      unfold allDig at h2
      simpa using h2
    have hx : 48 ≤ (x.toNat : Int) ∧ (x.toNat : Int) ≤ 57 := of_decide_eq_true hxd
    have hlen : W.length + P.length = D0.length + 1 := by rw [← List.length_append, hD]; simp
    have hT0 : (⟨D0.toArray⟩ : ByteArray).size = D0.length := by rw [Lib.size_eq]
    obtain ⟨TT, hTd⟩ : ∃ TT : ByteArray, TT.data.toList = W ++ P := ⟨⟨(W ++ P).toArray⟩, rfl⟩
    have hTT : TT.size = D0.length + 1 := by rw [Lib.size_eq, hTd, hD]; simp
    have hss : s.size ≤ 100000 := by omega
    have hpic : (⟨(WP.pic W P).toArray⟩ : ByteArray).data.toList = WP.pic W P := rfl
    have hpic2 : (⟨(83 :: WP.pic W P).toArray⟩ : ByteArray).data.toList = 83 :: WP.pic W P := rfl
    have hcat : (⟨D0.toArray⟩ : ByteArray) ++ ⟨#[x]⟩ = TT := by apply ba_ext; rw [data_app', hTd, hD]
    have hcat2 : (⟨D0.toArray⟩ : ByteArray) ++ ((⟨#[48, 49, 50, 51, 52, 53, 54, 55, 56, 57]⟩ : ByteArray).extract (x.toNat - 48) 10).extract 0 1 = TT := by
      apply ba_ext; rw [data_app', dig_str x hx.1 hx.2, hTd, hD]
    rcases hs with hs | ⟨c, hc, hs⟩
    · have HN : ∀ w, Env w → _ := fun w hE => litv_plain s ⟨(WP.pic W P).toArray⟩ W P (D0.length + 1) P.length w hE hss hs hpic hW hP hn hl hlen rfl
      rw [hD] at HN
      have ht := WP.tab_dig x hx.1 hx.2
      by_cases hp : P = []
      · subst hp
        exact value_u s ⟨D0.toArray⟩ TT ⟨(WP.pic W []).toArray⟩ x D0.length 0 w hE h hT0 (by omega) HN (by omega) ht.1 ht.2 hcat hTT (by apply ba_ext; rw [hs, hTd]; simp [WP.body])
      · have hj := join_body TT s W P [] hTd hs hp
        rw [hlen] at hj
        exact value_up s ⟨D0.toArray⟩ TT ⟨(WP.pic W P).toArray⟩ x D0.length 0 P.length w hE h hT0 (by omega) (by omega) (List.length_pos_iff.2 hp) HN (by omega) ht.1 ht.2 hcat hTT (by
          apply ba_ext; have := congrArg (fun b : ByteArray => b.data.toList) hj; simpa [data_app'] using this)
    · have hdd : x.toNat - 48 < 10 := by omega
      have hdc : (((x.toNat - 48 : Nat) : Int)) = (x.toNat : Int) - 48 := by omega
      rcases hc with rfl | rfl
      · have HN : ∀ w, Env w → _ := fun w hE => litv_signed 43 (.inl rfl) s ⟨(83 :: WP.pic W P).toArray⟩ W P (D0.length + 1) P.length w hE hss hs hpic2 hW hP hn hl hlen rfl
        have ho : overpunch ((43 : UInt8) == 45) (W ++ P) = D0 ++ [plusT.getD (x.toNat - 48) 0] := by rw [hD]; simp [overpunch]
        rw [ho] at HN
        have ht := WP.tab_plus x _ hx.1 hx.2 rfl
        rw [← hdc] at ht
        by_cases hp : P = []
        · subst hp
          exact value_p s ⟨D0.toArray⟩ TT _ _ D0.length _ w hE h hT0 (by omega) HN hdd ht.1 ht.2 hcat2 hTT (by apply ba_ext; rw [hs, data_app', hTd]; simp [WP.body])
        · have hj := join_body TT s W P [43] hTd hs hp
          rw [hlen] at hj
          exact value_pp s ⟨D0.toArray⟩ TT _ _ D0.length _ P.length w hE h hT0 (by omega) (by omega) (List.length_pos_iff.2 hp) HN hdd ht.1 ht.2 hcat2 hTT hj
      · have HN : ∀ w, Env w → _ := fun w hE => litv_signed 45 (.inr rfl) s ⟨(83 :: WP.pic W P).toArray⟩ W P (D0.length + 1) P.length w hE hss hs hpic2 hW hP hn hl hlen rfl
        have ho : overpunch ((45 : UInt8) == 45) (W ++ P) = D0 ++ [minusT.getD (x.toNat - 48) 0] := by rw [hD]; simp [overpunch]
        rw [ho] at HN
        have ht := WP.tab_minus x _ hx.1 hx.2 rfl
        rw [← hdc] at ht
        by_cases hp : P = []
        · subst hp
          exact value_m s ⟨D0.toArray⟩ TT _ _ D0.length _ w hE h hT0 (by omega) HN hdd ht.1 ht.2 hcat2 hTT (by apply ba_ext; rw [hs, data_app', hTd]; simp [WP.body])
        · have hj := join_body TT s W P [45] hTd hs hp
          rw [hlen] at hj
          exact value_mp s ⟨D0.toArray⟩ TT _ _ D0.length _ P.length w hE h hT0 (by omega) (by omega) (List.length_pos_iff.2 hp) HN hdd ht.1 ht.2 hcat2 hTT hj
end Go.Proofs.YtphofgokcfdobaaDoor
