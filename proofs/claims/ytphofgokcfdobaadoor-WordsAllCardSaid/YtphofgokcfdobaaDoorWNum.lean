/- The field of a number. -/
import Derived.Test.YtphofgokcfdobaaDoorWIn
import Derived.Test.YtphofgokcfdobaaDoorBytes
import Derived.Test.YtphofgokcfdobaaDoorStruct
namespace Go.Proofs.YtphofgokcfdobaaDoor
open Go.RowKit Go.Shelf
set_option maxRecDepth 100000

theorem trimP_any (s p r : ByteArray) (w : World) (h : Lib.trimPrefix s.data.toList p.data.toList = r.data.toList) :
    Calls Tryd.prog 41 #[.string s, .string p] w fun e w' => e = .returned (.string r) ∧ w = w' :=
  (Tryd.strings_TrimPrefix s p w).mono fun e w' ⟨he, hw⟩ => ⟨by rw [he, h, Lib.mk_data], hw.symm⟩

set_option maxHeartbeats 400000 in
theorem clipB_any (A : Addr) (n c : Nat) (w : World) (hc : n ≤ c) :
    Calls Tryd.prog 44 #[.slice (some A) n c] w fun e w' => e = .returned (.slice (some A) n n) ∧ w = w' := by
  go_enter Tryd.func44, Tryd.ntmps44
  go_wp2
  go_ret
  exact ⟨rfl, rfl⟩

theorem repeatL_one (b : UInt8) : ∀ n, Lib.repeatL [b] n = List.replicate n b
  | 0 => rfl
  | n + 1 => by simp [Lib.repeatL, repeatL_one b n, List.replicate_succ]

theorem repeat1_any (b : UInt8) (n : Nat) (w : World) (hn : n ≤ 1000000) :
    Calls Tryd.prog 15 #[.string ⟨#[b]⟩, .int .i64 n] w fun e w' => e = .returned (.string ⟨(List.replicate n b).toArray⟩) ∧ Below w.heap.size w w' :=
  (Tryd.strings_Repeat ⟨#[b]⟩ n w (by omega) (by show 1 * n ≤ _; omega)).mono fun e w' ⟨he, hw⟩ => ⟨by rw [he]; show Ending.returned (.string ⟨(Lib.repeatL [b] n).toArray⟩) = _; rw [repeatL_one], hw⟩

theorem cut_any (s p a b : ByteArray) (c : Bool) (w : World) (hE : Env w) (hs : s.size < 4294967281) (h : Lib.cut s.data.toList p.data.toList = (a.data.toList, b.data.toList, c)) :
    Calls Tryd.prog 42 #[.string s, .string p] w fun e w' => e = .returned (.tuple #[.string a, .string b, .bool c]) ∧ ∃ n, w' = w.drewN n := by
  obtain ⟨m, hm⟩ := hE.2.2
  exact (Tryd.strings_Cut s p m w hs (by exact hm)).mono fun e w' ⟨he, hw⟩ => ⟨by rw [he, h, Lib.mk_data, Lib.mk_data], hw⟩

/-- The zero field. -/
def fieldZ : Array Value := #[.int .u8 0, .int .u8 0, .string ⟨#[]⟩, .int .i64 0, .int .i64 0, .bool false, .bool false, .bool false, .bool false, .bool false, .int .i64 0, .slice none 0 0]
/-- The cells of a field. -/
def fieldV (cat : Int) (pic : List UInt8) (digits scale : Int) (signed : Bool) (size : Int) (b : Value) : Array Value :=
  #[.int .u8 cat, .int .u8 0, .string ⟨pic.toArray⟩, .int .i64 digits, .int .i64 scale, .bool signed, .bool false, .bool false, .bool false, .bool false, .int .i64 size, b]

def numPic (W P : ByteArray) (signed part : Bool) : List UInt8 := (if signed then [83] else []) ++ (List.replicate W.size 57 ++ (if part then 86 :: List.replicate P.size 57 else []))
def plusT : List UInt8 := [123, 65, 66, 67, 68, 69, 70, 71, 72, 73]
def minusT : List UInt8 := [125, 74, 75, 76, 77, 78, 79, 80, 81, 82]
/-- The digits with a sign in the last byte. -/
def overpunch (minus : Bool) (l : List UInt8) : List UInt8 := l.dropLast ++ [((if minus then minusT else plusT).getD ((l.getLastD 48).toNat - 48) 0)]
def numBytes (W P : ByteArray) (signed minus : Bool) : List UInt8 := if signed then overpunch minus (W ++ P).data.toList else (W ++ P).data.toList

/-- An error comes with the zero field. -/
def ErrPost (w : World) (c : Int) (e : Ending) (w' : World) : Prop := e = .returned (.tuple #[.agg fieldZ, .int .i64 c]) ∧ Below w.heap.size w w'

/-- What the field of a number is. -/
def NumPost (w : World) (W P : ByteArray) (signed part minus : Bool) (e : Ending) (w' : World) : Prop :=
  ∃ A, e = .returned (.tuple #[.agg (fieldV 4 (numPic W P signed part) (W.size + P.size : Nat) (P.size : Nat) signed (W.size + P.size : Nat) (.slice (some ⟨A, 0, none⟩) (W.size + P.size) (W.size + P.size))), .int .i64 0]) ∧
    w.heap.size ≤ A ∧ BytesAt w' 5 A (numBytes W P signed minus) ∧ Below w.heap.size w w'

theorem isDigs_at (l : List UInt8) (j : Nat) (hj : j < l.length) (h : isDigs l = true) : 48 ≤ (l[j].toNat : Int) ∧ (l[j].toNat : Int) ≤ 57 := by
  simp only [isDigs, allDig, Bool.and_eq_true, List.all_eq_true] at h
  have := h.2 _ (List.getElem_mem hj)
  exact of_decide_eq_true this
theorem tbl_get (l : List UInt8) (k : Nat) (h : k < l.toArray.size) : l.toArray[k] = l.getD k 0 := by
  have h' : k < l.length := by simpa using h
  rw [List.getD, List.getElem?_eq_getElem h']; rfl
theorem data_app (a b : ByteArray) : (a ++ b).data.toList = a.data.toList ++ b.data.toList := by
  rw [ByteArray.data_append, Array.toList_append]
theorem set_last (l : List UInt8) (b : UInt8) (h : 1 ≤ l.length) : l.set (l.length - 1) b = l.dropLast ++ [b] := by
  rcases List.eq_nil_or_concat l with rfl | ⟨t, x, rfl⟩
  · exact absurd h (by simp)
  · simp
theorem over_eq (l : List UInt8) (D b : UInt8) (minus : Bool) (n : Nat) (h : n < l.length) (hn : n + 1 = l.length) (hD : l[n] = D) (hb : b = (if minus then minusT else plusT).getD (D.toNat - 48) 0) : l.set n b = overpunch minus l := by
  obtain rfl : n = l.length - 1 := by omega
  rw [set_last l b (by omega), overpunch]
  have : l.getLastD 48 = D := by
    rw [List.getLastD_eq_getLast?, List.getLast?_eq_getElem?, List.getElem?_eq_getElem (by omega), hD]; rfl
  rw [this, hb]
theorem below_dr {B : Nat} {a w : World} (h : Below B a w) (n : Nat) : Below B a (w.drewN n) := h.trans ⟨rfl, rfl, rfl, Nat.le_refl _, fun _ _ => rfl⟩
/-- The post is met. -/
theorem numPost_mk {w w' : World} {S W P : ByteArray} {signed part minus : Bool} {pic : ByteArray} (hp : pic.data.toList = numPic W P signed part) (hsz : S.size = W.size + P.size)
    (hB : BytesAt w' 5 (w.heap.size + 1) (numBytes W P signed minus)) (hb : Below w.heap.size w w') :
    NumPost w W P signed part minus (.returned (.tuple #[.agg #[.int .u8 4, .int .u8 0, .string pic, .int .i64 (S.size : Nat), .int .i64 (P.size : Nat), .bool signed, .bool false, .bool false, .bool false, .bool false, .int .i64 (S.size : Nat), .slice (some ⟨w.heap.size + 1, 0, none⟩) S.size S.size], .int .i64 0])) w' := by
  refine ⟨w.heap.size + 1, ?_, by omega, hB, hb⟩
  rw [hsz, ← hp]; rfl


set_option maxHeartbeats 4000000 in
theorem number_0n (s r r0 W P : ByteArray) (w : World) (hE : Env w) (hs : s.size ≤ 100000) (hr1 : Lib.trimPrefix s.data.toList [43] = r0.data.toList) (hr2 : Lib.trimPrefix r0.data.toList [45] = r.data.toList)
   (hle : (r.size : Int) ≤ (s.size : Int)) (h1 : (s.size : Int) - (r.size : Int) ≤ 1) (hsg : decide (r.size < s.size) = false) (hc : Lib.cut r.data.toList [46] = (W.data.toList, P.data.toList, false)) (hP : P.toList.isEmpty = true)
   (hd : isDigs (W ++ P).data.toList = true) (hl : (W.size : Int) + (P.size : Int) ≤ 18) (hpos : 1 ≤ (W.size : Int) + (P.size : Int)) :
    Calls Tryd.prog 30 #[.string s] w (NumPost w W P false false false) := by
  have HE := Lib.hid hE
  have Hr1 := Lib.hid hr1
  have Hr2 := Lib.hid hr2
  have Hc := Lib.hid hc
  have Hd := Lib.hid hd
  have hlN : W.size + P.size ≤ 18 := by omega
  have hlP : 1 ≤ W.size + P.size := by omega
  clear hE hr1 hr2 hc hd
  go_enter Tryd.func30, Tryd.ntmps30
  go_wp2_with fail
  refine (trimP_any _ _ r0 _ (by exact Hr1.out)).mono ?_; rintro e w1 ⟨rfl, rfl⟩
  go_wp2_with fail
  refine (trimP_any _ _ r _ (by exact Hr2.out)).mono ?_; rintro e w1 ⟨rfl, rfl⟩
  go_wp2_with fail
  refine (cut_any _ _ W P false _ (HE.out.below ((Below.refl _ _).alloc (Nat.le_refl _) _)) (by omega) (by exact Hc.out)).mono ?_; rintro e w1 ⟨rfl, n1, rfl⟩
  go_wp2_with fail
  generalize hS : W ++ P = S
  have hz1 : (S.size : Int) ≤ (W.size : Int) + (P.size : Int) := by rw [← hS]; simp
  have hz2 : (W.size : Int) + (P.size : Int) ≤ (S.size : Int) := by rw [← hS]; simp
  have Hd : Hid (isDigs S.data.toList = true) := by rw [← hS]; exact Hd.out
  have HS := Lib.hid hS
  clear hS
  refine (isDigits_any _ _ (by unfold maxLen; omega)).mono ?_; rintro e w1 ⟨rfl, rfl⟩
  rw [Hd.out]
  go_wp2_with (refine wpList_bytes_of rfl _ 9 39 5 rfl S rfl Tryd.underlying9 Tryd.underlying39 Tryd.underlying5 ?_)
  intro c w2 hc2 hB hb hsz
  have HB := Lib.hid hB
  clear hB
  go_wp2_with fail
  refine (repeat1_any _ _ _ (by omega)).mono ?_; rintro e w3 ⟨rfl, hb3⟩
  have hg0 : w3.heap[w.heap.size]? = some (.cells fieldZ 41 (0, 0)) := by
    rw [hb3.block _ (by omega), hb.block _ (by simp)]
    show (w.heap.push _)[w.heap.size]? = _
    simp [fieldZ]
  have HBB : Below w.heap.size w w3 := ((below_dr ((Below.refl w.heap.size w).alloc (Nat.le_refl _) _) n1).trans (hb.mono (by simp))).trans (hb3.mono (by omega))
  have HB3 := Lib.hid (HB.out.below hb3 (by omega))
  have HG0 := Lib.hid hg0
  have Hb := Lib.hid hb
  clear hg0 hb
  go_wp2_with fail
  refine (clipB_any _ _ _ _ hc2).mono ?_; rintro e w1 ⟨rfl, rfl⟩
  go_wp2_with (refine wpList_store_row rfl _ _ 41 rfl w.heap.size rfl _ rfl _ _ HG0.out rfl (by kernel_rfl) rfl ?_)
  intro w5 hg5 hgr5 hsz5
  have HG5 := Lib.hid hg5
  clear hg5
  go_wp2_with fail
  refine bodyPost_ret (results_row_tmp rfl _ _ w.heap.size _ _ _ _ rfl HG5.out Tryd.underlying41 rfl (by kernel_rfl)) rfl ?_
  exact numPost_mk (by simp [numPic]) (by omega) ((HB3.out.same (hgr5.block _ (by have := HB3.out.lt; omega) (by simp))).cast (by rw [HS.out.symm]; rfl)) (HBB.grown hgr5 (by have := HBB.size; omega) (fun k e => by cases e; exact Nat.le_refl _))

set_option maxHeartbeats 4000000 in
theorem number_0p (s r r0 W P : ByteArray) (w : World) (hE : Env w) (hs : s.size ≤ 100000) (hr1 : Lib.trimPrefix s.data.toList [43] = r0.data.toList) (hr2 : Lib.trimPrefix r0.data.toList [45] = r.data.toList)
   (hle : (r.size : Int) ≤ (s.size : Int)) (h1 : (s.size : Int) - (r.size : Int) ≤ 1) (hsg : decide (r.size < s.size) = true) (hc : Lib.cut r.data.toList [46] = (W.data.toList, P.data.toList, false)) (hP : P.toList.isEmpty = true)
   (hd : isDigs (W ++ P).data.toList = true) (hl : (W.size : Int) + (P.size : Int) ≤ 18) (hpos : 1 ≤ (W.size : Int) + (P.size : Int)) (h0 : 0 < s.size) (hm : (((s[0]'h0).toNat : Int) == 45) = false) :
    Calls Tryd.prog 30 #[.string s] w (NumPost w W P true false false) := by
  have HE := Lib.hid hE
  have Hr1 := Lib.hid hr1
  have Hr2 := Lib.hid hr2
  have Hc := Lib.hid hc
  have Hd := Lib.hid hd
  have hlN : W.size + P.size ≤ 18 := by omega
  have hlP : 1 ≤ W.size + P.size := by omega
  clear hE hr1 hr2 hc hd
  go_enter Tryd.func30, Tryd.ntmps30
  go_wp2_with fail
  refine (trimP_any _ _ r0 _ (by exact Hr1.out)).mono ?_; rintro e w1 ⟨rfl, rfl⟩
  go_wp2_with fail
  refine (trimP_any _ _ r _ (by exact Hr2.out)).mono ?_; rintro e w1 ⟨rfl, rfl⟩
  go_wp2_with fail
  refine (cut_any _ _ W P false _ (HE.out.below ((Below.refl _ _).alloc (Nat.le_refl _) _)) (by omega) (by exact Hc.out)).mono ?_; rintro e w1 ⟨rfl, n1, rfl⟩
  go_wp2_with fail
  generalize hS : W ++ P = S
  have hz1 : (S.size : Int) ≤ (W.size : Int) + (P.size : Int) := by rw [← hS]; simp
  have hz2 : (W.size : Int) + (P.size : Int) ≤ (S.size : Int) := by rw [← hS]; simp
  have Hd : Hid (isDigs S.data.toList = true) := by rw [← hS]; exact Hd.out
  have HS := Lib.hid hS
  clear hS
  refine (isDigits_any _ _ (by unfold maxLen; omega)).mono ?_; rintro e w1 ⟨rfl, rfl⟩
  rw [Hd.out]
  go_wp2_with (refine wpList_bytes_of rfl _ 9 39 5 rfl S rfl Tryd.underlying9 Tryd.underlying39 Tryd.underlying5 ?_)
  intro c w2 hc2 hB hb hsz
  have HB := Lib.hid hB
  clear hB
  go_wp2_with fail
  refine (repeat1_any _ _ _ (by omega)).mono ?_; rintro e w3 ⟨rfl, hb3⟩
  have hg0 : w3.heap[w.heap.size]? = some (.cells fieldZ 41 (0, 0)) := by
    rw [hb3.block _ (by omega), hb.block _ (by simp)]
    show (w.heap.push _)[w.heap.size]? = _
    simp [fieldZ]
  have HBB : Below w.heap.size w w3 := ((below_dr ((Below.refl w.heap.size w).alloc (Nat.le_refl _) _) n1).trans (hb.mono (by simp))).trans (hb3.mono (by omega))
  have HB3 := Lib.hid (HB.out.below hb3 (by omega))
  have HG0 := Lib.hid hg0
  have Hb := Lib.hid hb
  clear hg0 hb
  have hlast : S.size - 1 < S.data.toList.length := by rw [← Lib.size_eq]; omega
  have hD := isDigs_at _ _ hlast Hd.out
  have hcell := HB3.out.cell (S.size - 1) hlast
  have hfro := HB3.out.frozen (S.size - 1) hlast
  generalize hDD : S.data.toList[S.size - 1] = D at hD hcell
  have HD := Lib.hid hDD
  obtain ⟨hD1, hD2⟩ := hD
  clear hDD
  go_wp2_with fail
  have HBS := Lib.hid (HB3.out.set (S.size - 1) hlast (((plusT).toArray)[D.toNat - 48]'(by simp [plusT]; omega)))
  refine (clipB_any _ _ _ _ hc2).mono ?_; rintro e w1 ⟨rfl, rfl⟩
  go_wp2_with (refine wpList_store_row rfl _ _ 41 rfl w.heap.size rfl _ rfl _ _ ((Below.heap_setCell _ _ _ _ (by simp)).trans HG0.out) rfl (by kernel_rfl) rfl ?_)
  intro w5 hg5 hgr5 hsz5
  have HG5 := Lib.hid hg5
  clear hg5
  go_wp2_with fail
  refine bodyPost_ret (results_row_tmp rfl _ _ w.heap.size _ _ _ _ rfl HG5.out Tryd.underlying41 rfl (by kernel_rfl)) rfl ?_
  exact numPost_mk (by simp [numPic]) (by omega) ((HBS.out.same (hgr5.block _ (by simp; have := HB3.out.lt; omega) (by simp))).cast ((over_eq _ _ _ false _ hlast (by rw [← Lib.size_eq]; omega) HD.out (tbl_get _ _ _)).trans (by rw [HS.out.symm]; rfl))) ((HBB.setCell (by simp) _).grown hgr5 (by have := HBB.size; simp; omega) (fun k e => by cases e; exact Nat.le_refl _))

set_option maxHeartbeats 4000000 in
theorem number_0m (s r r0 W P : ByteArray) (w : World) (hE : Env w) (hs : s.size ≤ 100000) (hr1 : Lib.trimPrefix s.data.toList [43] = r0.data.toList) (hr2 : Lib.trimPrefix r0.data.toList [45] = r.data.toList)
   (hle : (r.size : Int) ≤ (s.size : Int)) (h1 : (s.size : Int) - (r.size : Int) ≤ 1) (hsg : decide (r.size < s.size) = true) (hc : Lib.cut r.data.toList [46] = (W.data.toList, P.data.toList, false)) (hP : P.toList.isEmpty = true)
   (hd : isDigs (W ++ P).data.toList = true) (hl : (W.size : Int) + (P.size : Int) ≤ 18) (hpos : 1 ≤ (W.size : Int) + (P.size : Int)) (h0 : 0 < s.size) (hm : (((s[0]'h0).toNat : Int) == 45) = true) :
    Calls Tryd.prog 30 #[.string s] w (NumPost w W P true false true) := by
  have HE := Lib.hid hE
  have Hr1 := Lib.hid hr1
  have Hr2 := Lib.hid hr2
  have Hc := Lib.hid hc
  have Hd := Lib.hid hd
  have hlN : W.size + P.size ≤ 18 := by omega
  have hlP : 1 ≤ W.size + P.size := by omega
  clear hE hr1 hr2 hc hd
  go_enter Tryd.func30, Tryd.ntmps30
  go_wp2_with fail
  refine (trimP_any _ _ r0 _ (by exact Hr1.out)).mono ?_; rintro e w1 ⟨rfl, rfl⟩
  go_wp2_with fail
  refine (trimP_any _ _ r _ (by exact Hr2.out)).mono ?_; rintro e w1 ⟨rfl, rfl⟩
  go_wp2_with fail
  refine (cut_any _ _ W P false _ (HE.out.below ((Below.refl _ _).alloc (Nat.le_refl _) _)) (by omega) (by exact Hc.out)).mono ?_; rintro e w1 ⟨rfl, n1, rfl⟩
  go_wp2_with fail
  generalize hS : W ++ P = S
  have hz1 : (S.size : Int) ≤ (W.size : Int) + (P.size : Int) := by rw [← hS]; simp
  have hz2 : (W.size : Int) + (P.size : Int) ≤ (S.size : Int) := by rw [← hS]; simp
  have Hd : Hid (isDigs S.data.toList = true) := by rw [← hS]; exact Hd.out
  have HS := Lib.hid hS
  clear hS
  refine (isDigits_any _ _ (by unfold maxLen; omega)).mono ?_; rintro e w1 ⟨rfl, rfl⟩
  rw [Hd.out]
  go_wp2_with (refine wpList_bytes_of rfl _ 9 39 5 rfl S rfl Tryd.underlying9 Tryd.underlying39 Tryd.underlying5 ?_)
  intro c w2 hc2 hB hb hsz
  have HB := Lib.hid hB
  clear hB
  go_wp2_with fail
  refine (repeat1_any _ _ _ (by omega)).mono ?_; rintro e w3 ⟨rfl, hb3⟩
  have hg0 : w3.heap[w.heap.size]? = some (.cells fieldZ 41 (0, 0)) := by
    rw [hb3.block _ (by omega), hb.block _ (by simp)]
    show (w.heap.push _)[w.heap.size]? = _
    simp [fieldZ]
  have HBB : Below w.heap.size w w3 := ((below_dr ((Below.refl w.heap.size w).alloc (Nat.le_refl _) _) n1).trans (hb.mono (by simp))).trans (hb3.mono (by omega))
  have HB3 := Lib.hid (HB.out.below hb3 (by omega))
  have HG0 := Lib.hid hg0
  have Hb := Lib.hid hb
  clear hg0 hb
  have hlast : S.size - 1 < S.data.toList.length := by rw [← Lib.size_eq]; omega
  have hD := isDigs_at _ _ hlast Hd.out
  have hcell := HB3.out.cell (S.size - 1) hlast
  have hfro := HB3.out.frozen (S.size - 1) hlast
  generalize hDD : S.data.toList[S.size - 1] = D at hD hcell
  have HD := Lib.hid hDD
  obtain ⟨hD1, hD2⟩ := hD
  clear hDD
  go_wp2_with fail
  have HBS := Lib.hid (HB3.out.set (S.size - 1) hlast (((minusT).toArray)[D.toNat - 48]'(by simp [minusT]; omega)))
  refine (clipB_any _ _ _ _ hc2).mono ?_; rintro e w1 ⟨rfl, rfl⟩
  go_wp2_with (refine wpList_store_row rfl _ _ 41 rfl w.heap.size rfl _ rfl _ _ ((Below.heap_setCell _ _ _ _ (by simp)).trans HG0.out) rfl (by kernel_rfl) rfl ?_)
  intro w5 hg5 hgr5 hsz5
  have HG5 := Lib.hid hg5
  clear hg5
  go_wp2_with fail
  refine bodyPost_ret (results_row_tmp rfl _ _ w.heap.size _ _ _ _ rfl HG5.out Tryd.underlying41 rfl (by kernel_rfl)) rfl ?_
  exact numPost_mk (by simp [numPic]) (by omega) ((HBS.out.same (hgr5.block _ (by simp; have := HB3.out.lt; omega) (by simp))).cast ((over_eq _ _ _ true _ hlast (by rw [← Lib.size_eq]; omega) HD.out (tbl_get _ _ _)).trans (by rw [HS.out.symm]; rfl))) ((HBB.setCell (by simp) _).grown hgr5 (by have := HBB.size; simp; omega) (fun k e => by cases e; exact Nat.le_refl _))

set_option maxHeartbeats 4000000 in
theorem number_1n (s r r0 W P : ByteArray) (w : World) (hE : Env w) (hs : s.size ≤ 100000) (hr1 : Lib.trimPrefix s.data.toList [43] = r0.data.toList) (hr2 : Lib.trimPrefix r0.data.toList [45] = r.data.toList)
   (hle : (r.size : Int) ≤ (s.size : Int)) (h1 : (s.size : Int) - (r.size : Int) ≤ 1) (hsg : decide (r.size < s.size) = false) (hc : Lib.cut r.data.toList [46] = (W.data.toList, P.data.toList, true)) (hP : P.toList.isEmpty = false)
   (hd : isDigs (W ++ P).data.toList = true) (hl : (W.size : Int) + (P.size : Int) ≤ 18) (hpos : 1 ≤ (W.size : Int) + (P.size : Int)) :
    Calls Tryd.prog 30 #[.string s] w (NumPost w W P false true false) := by
  have HE := Lib.hid hE
  have Hr1 := Lib.hid hr1
  have Hr2 := Lib.hid hr2
  have Hc := Lib.hid hc
  have Hd := Lib.hid hd
  have hlN : W.size + P.size ≤ 18 := by omega
  have hlP : 1 ≤ W.size + P.size := by omega
  clear hE hr1 hr2 hc hd
  go_enter Tryd.func30, Tryd.ntmps30
  go_wp2_with fail
  refine (trimP_any _ _ r0 _ (by exact Hr1.out)).mono ?_; rintro e w1 ⟨rfl, rfl⟩
  go_wp2_with fail
  refine (trimP_any _ _ r _ (by exact Hr2.out)).mono ?_; rintro e w1 ⟨rfl, rfl⟩
  go_wp2_with fail
  refine (cut_any _ _ W P true _ (HE.out.below ((Below.refl _ _).alloc (Nat.le_refl _) _)) (by omega) (by exact Hc.out)).mono ?_; rintro e w1 ⟨rfl, n1, rfl⟩
  go_wp2_with fail
  generalize hS : W ++ P = S
  have hz1 : (S.size : Int) ≤ (W.size : Int) + (P.size : Int) := by rw [← hS]; simp
  have hz2 : (W.size : Int) + (P.size : Int) ≤ (S.size : Int) := by rw [← hS]; simp
  have Hd : Hid (isDigs S.data.toList = true) := by rw [← hS]; exact Hd.out
  have HS := Lib.hid hS
  clear hS
  refine (isDigits_any _ _ (by unfold maxLen; omega)).mono ?_; rintro e w1 ⟨rfl, rfl⟩
  rw [Hd.out]
  go_wp2_with (refine wpList_bytes_of rfl _ 9 39 5 rfl S rfl Tryd.underlying9 Tryd.underlying39 Tryd.underlying5 ?_)
  intro c w2 hc2 hB hb hsz
  have HB := Lib.hid hB
  clear hB
  go_wp2_with fail
  refine (repeat1_any _ _ _ (by omega)).mono ?_; rintro e w3 ⟨rfl, hb3⟩
  have hsz3 := hb3.size
  go_wp2_with fail
  refine (repeat1_any _ _ _ (by omega)).mono ?_; rintro e w4 ⟨rfl, hb4⟩
  have hb34 := hb3.trans (hb4.mono hb3.size)
  have hg0 : w4.heap[w.heap.size]? = some (.cells fieldZ 41 (0, 0)) := by
    rw [hb34.block _ (by omega), hb.block _ (by simp)]
    show (w.heap.push _)[w.heap.size]? = _
    simp [fieldZ]
  have HBB : Below w.heap.size w w4 := ((below_dr ((Below.refl w.heap.size w).alloc (Nat.le_refl _) _) n1).trans (hb.mono (by simp))).trans (hb34.mono (by omega))
  have HB3 := Lib.hid (HB.out.below hb34 (by omega))
  have HG0 := Lib.hid hg0
  have Hb := Lib.hid hb
  clear hg0 hb
  go_wp2_with fail
  refine (clipB_any _ _ _ _ hc2).mono ?_; rintro e w1 ⟨rfl, rfl⟩
  go_wp2_with (refine wpList_store_row rfl _ _ 41 rfl w.heap.size rfl _ rfl _ _ HG0.out rfl (by kernel_rfl) rfl ?_)
  intro w5 hg5 hgr5 hsz5
  have HG5 := Lib.hid hg5
  clear hg5
  go_wp2_with fail
  refine bodyPost_ret (results_row_tmp rfl _ _ w.heap.size _ _ _ _ rfl HG5.out Tryd.underlying41 rfl (by kernel_rfl)) rfl ?_
  exact numPost_mk (by simp [numPic]) (by omega) ((HB3.out.same (hgr5.block _ (by have := HB3.out.lt; omega) (by simp))).cast (by rw [HS.out.symm]; rfl)) (HBB.grown hgr5 (by have := HBB.size; omega) (fun k e => by cases e; exact Nat.le_refl _))

set_option maxHeartbeats 4000000 in
theorem number_1p (s r r0 W P : ByteArray) (w : World) (hE : Env w) (hs : s.size ≤ 100000) (hr1 : Lib.trimPrefix s.data.toList [43] = r0.data.toList) (hr2 : Lib.trimPrefix r0.data.toList [45] = r.data.toList)
   (hle : (r.size : Int) ≤ (s.size : Int)) (h1 : (s.size : Int) - (r.size : Int) ≤ 1) (hsg : decide (r.size < s.size) = true) (hc : Lib.cut r.data.toList [46] = (W.data.toList, P.data.toList, true)) (hP : P.toList.isEmpty = false)
   (hd : isDigs (W ++ P).data.toList = true) (hl : (W.size : Int) + (P.size : Int) ≤ 18) (hpos : 1 ≤ (W.size : Int) + (P.size : Int)) (h0 : 0 < s.size) (hm : (((s[0]'h0).toNat : Int) == 45) = false) :
    Calls Tryd.prog 30 #[.string s] w (NumPost w W P true true false) := by
  have HE := Lib.hid hE
  have Hr1 := Lib.hid hr1
  have Hr2 := Lib.hid hr2
  have Hc := Lib.hid hc
  have Hd := Lib.hid hd
  have hlN : W.size + P.size ≤ 18 := by omega
  have hlP : 1 ≤ W.size + P.size := by omega
  clear hE hr1 hr2 hc hd
  go_enter Tryd.func30, Tryd.ntmps30
  go_wp2_with fail
  refine (trimP_any _ _ r0 _ (by exact Hr1.out)).mono ?_; rintro e w1 ⟨rfl, rfl⟩
  go_wp2_with fail
  refine (trimP_any _ _ r _ (by exact Hr2.out)).mono ?_; rintro e w1 ⟨rfl, rfl⟩
  go_wp2_with fail
  refine (cut_any _ _ W P true _ (HE.out.below ((Below.refl _ _).alloc (Nat.le_refl _) _)) (by omega) (by exact Hc.out)).mono ?_; rintro e w1 ⟨rfl, n1, rfl⟩
  go_wp2_with fail
  generalize hS : W ++ P = S
  have hz1 : (S.size : Int) ≤ (W.size : Int) + (P.size : Int) := by rw [← hS]; simp
  have hz2 : (W.size : Int) + (P.size : Int) ≤ (S.size : Int) := by rw [← hS]; simp
  have Hd : Hid (isDigs S.data.toList = true) := by rw [← hS]; exact Hd.out
  have HS := Lib.hid hS
  clear hS
  refine (isDigits_any _ _ (by unfold maxLen; omega)).mono ?_; rintro e w1 ⟨rfl, rfl⟩
  rw [Hd.out]
  go_wp2_with (refine wpList_bytes_of rfl _ 9 39 5 rfl S rfl Tryd.underlying9 Tryd.underlying39 Tryd.underlying5 ?_)
  intro c w2 hc2 hB hb hsz
  have HB := Lib.hid hB
  clear hB
  go_wp2_with fail
  refine (repeat1_any _ _ _ (by omega)).mono ?_; rintro e w3 ⟨rfl, hb3⟩
  have hsz3 := hb3.size
  go_wp2_with fail
  refine (repeat1_any _ _ _ (by omega)).mono ?_; rintro e w4 ⟨rfl, hb4⟩
  have hb34 := hb3.trans (hb4.mono hb3.size)
  have hg0 : w4.heap[w.heap.size]? = some (.cells fieldZ 41 (0, 0)) := by
    rw [hb34.block _ (by omega), hb.block _ (by simp)]
    show (w.heap.push _)[w.heap.size]? = _
    simp [fieldZ]
  have HBB : Below w.heap.size w w4 := ((below_dr ((Below.refl w.heap.size w).alloc (Nat.le_refl _) _) n1).trans (hb.mono (by simp))).trans (hb34.mono (by omega))
  have HB3 := Lib.hid (HB.out.below hb34 (by omega))
  have HG0 := Lib.hid hg0
  have Hb := Lib.hid hb
  clear hg0 hb
  have hlast : S.size - 1 < S.data.toList.length := by rw [← Lib.size_eq]; omega
  have hD := isDigs_at _ _ hlast Hd.out
  have hcell := HB3.out.cell (S.size - 1) hlast
  have hfro := HB3.out.frozen (S.size - 1) hlast
  generalize hDD : S.data.toList[S.size - 1] = D at hD hcell
  have HD := Lib.hid hDD
  obtain ⟨hD1, hD2⟩ := hD
  clear hDD
  go_wp2_with fail
  have HBS := Lib.hid (HB3.out.set (S.size - 1) hlast (((plusT).toArray)[D.toNat - 48]'(by simp [plusT]; omega)))
  refine (clipB_any _ _ _ _ hc2).mono ?_; rintro e w1 ⟨rfl, rfl⟩
  go_wp2_with (refine wpList_store_row rfl _ _ 41 rfl w.heap.size rfl _ rfl _ _ ((Below.heap_setCell _ _ _ _ (by simp)).trans HG0.out) rfl (by kernel_rfl) rfl ?_)
  intro w5 hg5 hgr5 hsz5
  have HG5 := Lib.hid hg5
  clear hg5
  go_wp2_with fail
  refine bodyPost_ret (results_row_tmp rfl _ _ w.heap.size _ _ _ _ rfl HG5.out Tryd.underlying41 rfl (by kernel_rfl)) rfl ?_
  exact numPost_mk (by simp [numPic]) (by omega) ((HBS.out.same (hgr5.block _ (by simp; have := HB3.out.lt; omega) (by simp))).cast ((over_eq _ _ _ false _ hlast (by rw [← Lib.size_eq]; omega) HD.out (tbl_get _ _ _)).trans (by rw [HS.out.symm]; rfl))) ((HBB.setCell (by simp) _).grown hgr5 (by have := HBB.size; simp; omega) (fun k e => by cases e; exact Nat.le_refl _))

set_option maxHeartbeats 4000000 in
theorem number_1m (s r r0 W P : ByteArray) (w : World) (hE : Env w) (hs : s.size ≤ 100000) (hr1 : Lib.trimPrefix s.data.toList [43] = r0.data.toList) (hr2 : Lib.trimPrefix r0.data.toList [45] = r.data.toList)
   (hle : (r.size : Int) ≤ (s.size : Int)) (h1 : (s.size : Int) - (r.size : Int) ≤ 1) (hsg : decide (r.size < s.size) = true) (hc : Lib.cut r.data.toList [46] = (W.data.toList, P.data.toList, true)) (hP : P.toList.isEmpty = false)
   (hd : isDigs (W ++ P).data.toList = true) (hl : (W.size : Int) + (P.size : Int) ≤ 18) (hpos : 1 ≤ (W.size : Int) + (P.size : Int)) (h0 : 0 < s.size) (hm : (((s[0]'h0).toNat : Int) == 45) = true) :
    Calls Tryd.prog 30 #[.string s] w (NumPost w W P true true true) := by
  have HE := Lib.hid hE
  have Hr1 := Lib.hid hr1
  have Hr2 := Lib.hid hr2
  have Hc := Lib.hid hc
  have Hd := Lib.hid hd
  have hlN : W.size + P.size ≤ 18 := by omega
  have hlP : 1 ≤ W.size + P.size := by omega
  clear hE hr1 hr2 hc hd
  go_enter Tryd.func30, Tryd.ntmps30
  go_wp2_with fail
  refine (trimP_any _ _ r0 _ (by exact Hr1.out)).mono ?_; rintro e w1 ⟨rfl, rfl⟩
  go_wp2_with fail
  refine (trimP_any _ _ r _ (by exact Hr2.out)).mono ?_; rintro e w1 ⟨rfl, rfl⟩
  go_wp2_with fail
  refine (cut_any _ _ W P true _ (HE.out.below ((Below.refl _ _).alloc (Nat.le_refl _) _)) (by omega) (by exact Hc.out)).mono ?_; rintro e w1 ⟨rfl, n1, rfl⟩
  go_wp2_with fail
  generalize hS : W ++ P = S
  have hz1 : (S.size : Int) ≤ (W.size : Int) + (P.size : Int) := by rw [← hS]; simp
  have hz2 : (W.size : Int) + (P.size : Int) ≤ (S.size : Int) := by rw [← hS]; simp
  have Hd : Hid (isDigs S.data.toList = true) := by rw [← hS]; exact Hd.out
  have HS := Lib.hid hS
  clear hS
  refine (isDigits_any _ _ (by unfold maxLen; omega)).mono ?_; rintro e w1 ⟨rfl, rfl⟩
  rw [Hd.out]
  go_wp2_with (refine wpList_bytes_of rfl _ 9 39 5 rfl S rfl Tryd.underlying9 Tryd.underlying39 Tryd.underlying5 ?_)
  intro c w2 hc2 hB hb hsz
  have HB := Lib.hid hB
  clear hB
  go_wp2_with fail
  refine (repeat1_any _ _ _ (by omega)).mono ?_; rintro e w3 ⟨rfl, hb3⟩
  have hsz3 := hb3.size
  go_wp2_with fail
  refine (repeat1_any _ _ _ (by omega)).mono ?_; rintro e w4 ⟨rfl, hb4⟩
  have hb34 := hb3.trans (hb4.mono hb3.size)
  have hg0 : w4.heap[w.heap.size]? = some (.cells fieldZ 41 (0, 0)) := by
    rw [hb34.block _ (by omega), hb.block _ (by simp)]
    show (w.heap.push _)[w.heap.size]? = _
    simp [fieldZ]
  have HBB : Below w.heap.size w w4 := ((below_dr ((Below.refl w.heap.size w).alloc (Nat.le_refl _) _) n1).trans (hb.mono (by simp))).trans (hb34.mono (by omega))
  have HB3 := Lib.hid (HB.out.below hb34 (by omega))
  have HG0 := Lib.hid hg0
  have Hb := Lib.hid hb
  clear hg0 hb
  have hlast : S.size - 1 < S.data.toList.length := by rw [← Lib.size_eq]; omega
  have hD := isDigs_at _ _ hlast Hd.out
  have hcell := HB3.out.cell (S.size - 1) hlast
  have hfro := HB3.out.frozen (S.size - 1) hlast
  generalize hDD : S.data.toList[S.size - 1] = D at hD hcell
  have HD := Lib.hid hDD
  obtain ⟨hD1, hD2⟩ := hD
  clear hDD
  go_wp2_with fail
  have HBS := Lib.hid (HB3.out.set (S.size - 1) hlast (((minusT).toArray)[D.toNat - 48]'(by simp [minusT]; omega)))
  refine (clipB_any _ _ _ _ hc2).mono ?_; rintro e w1 ⟨rfl, rfl⟩
  go_wp2_with (refine wpList_store_row rfl _ _ 41 rfl w.heap.size rfl _ rfl _ _ ((Below.heap_setCell _ _ _ _ (by simp)).trans HG0.out) rfl (by kernel_rfl) rfl ?_)
  intro w5 hg5 hgr5 hsz5
  have HG5 := Lib.hid hg5
  clear hg5
  go_wp2_with fail
  refine bodyPost_ret (results_row_tmp rfl _ _ w.heap.size _ _ _ _ rfl HG5.out Tryd.underlying41 rfl (by kernel_rfl)) rfl ?_
  exact numPost_mk (by simp [numPic]) (by omega) ((HBS.out.same (hgr5.block _ (by simp; have := HB3.out.lt; omega) (by simp))).cast ((over_eq _ _ _ true _ hlast (by rw [← Lib.size_eq]; omega) HD.out (tbl_get _ _ _)).trans (by rw [HS.out.symm]; rfl))) ((HBB.setCell (by simp) _).grown hgr5 (by have := HBB.size; simp; omega) (fun k e => by cases e; exact Nat.le_refl _))

set_option maxHeartbeats 4000000 in
theorem number_form1 (s r r0 W P : ByteArray) (pt : Bool) (w : World) (hE : Env w) (hs : s.size ≤ 100000) (hr1 : Lib.trimPrefix s.data.toList [43] = r0.data.toList) (hr2 : Lib.trimPrefix r0.data.toList [45] = r.data.toList)
   (_hle : (r.size : Int) ≤ (s.size : Int)) (hWP : (W.size : Int) + (P.size : Int) ≤ 200000) (hc : Lib.cut r.data.toList [46] = (W.data.toList, P.data.toList, pt)) (h1 : 1 < (s.size : Int) - (r.size : Int)) :
    Calls Tryd.prog 30 #[.string s] w (ErrPost w 4) := by
  have HE := Lib.hid hE
  have Hr1 := Lib.hid hr1
  have Hr2 := Lib.hid hr2
  skip
  have Hc := Lib.hid hc
  skip
  clear hE hr1 hr2 hc 
  go_enter Tryd.func30, Tryd.ntmps30
  go_wp2_with fail
  refine (trimP_any _ _ r0 _ (by exact Hr1.out)).mono ?_; rintro e w1 ⟨rfl, rfl⟩
  go_wp2_with fail
  refine (trimP_any _ _ r _ (by exact Hr2.out)).mono ?_; rintro e w1 ⟨rfl, rfl⟩
  go_wp2_with fail
  refine (cut_any _ _ W P _ _ (HE.out.below ((Below.refl _ _).alloc (Nat.le_refl _) _)) (by omega) (by exact Hc.out)).mono ?_; rintro e w1 ⟨rfl, n1, rfl⟩
  have hg0 : (((w.alloc (.cells fieldZ 41 (0, 0))).drewN n1).heap[w.heap.size]? = some (.cells fieldZ 41 (0, 0))) := by
    show (w.heap.push _)[w.heap.size]? = _
    simp
  have HG0 := Lib.hid hg0
  clear hg0
  go_wp2_with (refine wpList_store_row rfl _ _ 41 rfl w.heap.size rfl _ rfl _ _ HG0.out rfl (by kernel_rfl) rfl ?_)
  intro w5 hg5 hgr5 hsz5
  have HG5 := Lib.hid hg5
  clear hg5
  go_wp2_with fail
  refine bodyPost_ret (results_row_tmp rfl _ _ w.heap.size _ _ _ _ rfl HG5.out Tryd.underlying41 rfl (by kernel_rfl)) rfl ?_
  exact ⟨rfl, (below_dr ((Below.refl w.heap.size w).alloc (Nat.le_refl _) _) n1).grown hgr5 (by simp) (fun k e => by cases e; exact Nat.le_refl _)⟩

set_option maxHeartbeats 4000000 in
theorem number_form2 (s r r0 W P : ByteArray) (pt : Bool) (w : World) (hE : Env w) (hs : s.size ≤ 100000) (hr1 : Lib.trimPrefix s.data.toList [43] = r0.data.toList) (hr2 : Lib.trimPrefix r0.data.toList [45] = r.data.toList)
   (_hle : (r.size : Int) ≤ (s.size : Int)) (hWP : (W.size : Int) + (P.size : Int) ≤ 200000) (hc : Lib.cut r.data.toList [46] = (W.data.toList, P.data.toList, pt)) (h1 : (s.size : Int) - (r.size : Int) ≤ 1) (hd : isDigs (W ++ P).data.toList = false) :
    Calls Tryd.prog 30 #[.string s] w (ErrPost w 4) := by
  have HE := Lib.hid hE
  have Hr1 := Lib.hid hr1
  have Hr2 := Lib.hid hr2
  skip
  have Hc := Lib.hid hc
  have Hd := Lib.hid hd
  clear hE hr1 hr2 hc hd
  go_enter Tryd.func30, Tryd.ntmps30
  go_wp2_with fail
  refine (trimP_any _ _ r0 _ (by exact Hr1.out)).mono ?_; rintro e w1 ⟨rfl, rfl⟩
  go_wp2_with fail
  refine (trimP_any _ _ r _ (by exact Hr2.out)).mono ?_; rintro e w1 ⟨rfl, rfl⟩
  go_wp2_with fail
  refine (cut_any _ _ W P _ _ (HE.out.below ((Below.refl _ _).alloc (Nat.le_refl _) _)) (by omega) (by exact Hc.out)).mono ?_; rintro e w1 ⟨rfl, n1, rfl⟩
  have hg0 : (((w.alloc (.cells fieldZ 41 (0, 0))).drewN n1).heap[w.heap.size]? = some (.cells fieldZ 41 (0, 0))) := by
    show (w.heap.push _)[w.heap.size]? = _
    simp
  have HG0 := Lib.hid hg0
  clear hg0
  go_wp2_with fail
  refine (isDigits_any _ _ (by simp; unfold maxLen; omega)).mono ?_; rintro e w1 ⟨rfl, rfl⟩
  rw [Hd.out]
  go_wp2_with (refine wpList_store_row rfl _ _ 41 rfl w.heap.size rfl _ rfl _ _ HG0.out rfl (by kernel_rfl) rfl ?_)
  intro w5 hg5 hgr5 hsz5
  have HG5 := Lib.hid hg5
  clear hg5
  go_wp2_with fail
  refine bodyPost_ret (results_row_tmp rfl _ _ w.heap.size _ _ _ _ rfl HG5.out Tryd.underlying41 rfl (by kernel_rfl)) rfl ?_
  exact ⟨rfl, (below_dr ((Below.refl w.heap.size w).alloc (Nat.le_refl _) _) n1).grown hgr5 (by simp) (fun k e => by cases e; exact Nat.le_refl _)⟩

set_option maxHeartbeats 4000000 in
theorem number_form3 (s r r0 W P : ByteArray) (pt : Bool) (w : World) (hE : Env w) (hs : s.size ≤ 100000) (hr1 : Lib.trimPrefix s.data.toList [43] = r0.data.toList) (hr2 : Lib.trimPrefix r0.data.toList [45] = r.data.toList)
   (_hle : (r.size : Int) ≤ (s.size : Int)) (hWP : (W.size : Int) + (P.size : Int) ≤ 200000) (hc : Lib.cut r.data.toList [46] = (W.data.toList, P.data.toList, pt)) (h1 : (s.size : Int) - (r.size : Int) ≤ 1) (hd : isDigs (W ++ P).data.toList = true) (hpt : pt = true) (hP : P.toList.isEmpty = true) :
    Calls Tryd.prog 30 #[.string s] w (ErrPost w 4) := by
  have HE := Lib.hid hE
  have Hr1 := Lib.hid hr1
  have Hr2 := Lib.hid hr2
  subst hpt
  have Hc := Lib.hid hc
  have Hd := Lib.hid hd
  clear hE hr1 hr2 hc hd
  go_enter Tryd.func30, Tryd.ntmps30
  go_wp2_with fail
  refine (trimP_any _ _ r0 _ (by exact Hr1.out)).mono ?_; rintro e w1 ⟨rfl, rfl⟩
  go_wp2_with fail
  refine (trimP_any _ _ r _ (by exact Hr2.out)).mono ?_; rintro e w1 ⟨rfl, rfl⟩
  go_wp2_with fail
  refine (cut_any _ _ W P _ _ (HE.out.below ((Below.refl _ _).alloc (Nat.le_refl _) _)) (by omega) (by exact Hc.out)).mono ?_; rintro e w1 ⟨rfl, n1, rfl⟩
  have hg0 : (((w.alloc (.cells fieldZ 41 (0, 0))).drewN n1).heap[w.heap.size]? = some (.cells fieldZ 41 (0, 0))) := by
    show (w.heap.push _)[w.heap.size]? = _
    simp
  have HG0 := Lib.hid hg0
  clear hg0
  go_wp2_with fail
  refine (isDigits_any _ _ (by simp; unfold maxLen; omega)).mono ?_; rintro e w1 ⟨rfl, rfl⟩
  rw [Hd.out]
  go_wp2_with (refine wpList_store_row rfl _ _ 41 rfl w.heap.size rfl _ rfl _ _ HG0.out rfl (by kernel_rfl) rfl ?_)
  intro w5 hg5 hgr5 hsz5
  have HG5 := Lib.hid hg5
  clear hg5
  go_wp2_with fail
  refine bodyPost_ret (results_row_tmp rfl _ _ w.heap.size _ _ _ _ rfl HG5.out Tryd.underlying41 rfl (by kernel_rfl)) rfl ?_
  exact ⟨rfl, (below_dr ((Below.refl w.heap.size w).alloc (Nat.le_refl _) _) n1).grown hgr5 (by simp) (fun k e => by cases e; exact Nat.le_refl _)⟩

set_option maxHeartbeats 4000000 in
theorem number_width1 (s r r0 W P : ByteArray) (pt : Bool) (w : World) (hE : Env w) (hs : s.size ≤ 100000) (hr1 : Lib.trimPrefix s.data.toList [43] = r0.data.toList) (hr2 : Lib.trimPrefix r0.data.toList [45] = r.data.toList)
   (_hle : (r.size : Int) ≤ (s.size : Int)) (hWP : (W.size : Int) + (P.size : Int) ≤ 200000) (hc : Lib.cut r.data.toList [46] = (W.data.toList, P.data.toList, pt)) (h1 : (s.size : Int) - (r.size : Int) ≤ 1) (hd : isDigs (W ++ P).data.toList = true) (hpt : pt = false) (hl : 18 < (W.size : Int) + (P.size : Int)) :
    Calls Tryd.prog 30 #[.string s] w (ErrPost w 5) := by
  have HE := Lib.hid hE
  have Hr1 := Lib.hid hr1
  have Hr2 := Lib.hid hr2
  subst hpt
  have Hc := Lib.hid hc
  have Hd := Lib.hid hd
  clear hE hr1 hr2 hc hd
  go_enter Tryd.func30, Tryd.ntmps30
  go_wp2_with fail
  refine (trimP_any _ _ r0 _ (by exact Hr1.out)).mono ?_; rintro e w1 ⟨rfl, rfl⟩
  go_wp2_with fail
  refine (trimP_any _ _ r _ (by exact Hr2.out)).mono ?_; rintro e w1 ⟨rfl, rfl⟩
  go_wp2_with fail
  refine (cut_any _ _ W P _ _ (HE.out.below ((Below.refl _ _).alloc (Nat.le_refl _) _)) (by omega) (by exact Hc.out)).mono ?_; rintro e w1 ⟨rfl, n1, rfl⟩
  have hg0 : (((w.alloc (.cells fieldZ 41 (0, 0))).drewN n1).heap[w.heap.size]? = some (.cells fieldZ 41 (0, 0))) := by
    show (w.heap.push _)[w.heap.size]? = _
    simp
  have HG0 := Lib.hid hg0
  clear hg0
  go_wp2_with fail
  refine (isDigits_any _ _ (by simp; unfold maxLen; omega)).mono ?_; rintro e w1 ⟨rfl, rfl⟩
  rw [Hd.out]
  go_wp2_with (refine wpList_store_row rfl _ _ 41 rfl w.heap.size rfl _ rfl _ _ HG0.out rfl (by kernel_rfl) rfl ?_)
  intro w5 hg5 hgr5 hsz5
  have HG5 := Lib.hid hg5
  clear hg5
  go_wp2_with fail
  refine bodyPost_ret (results_row_tmp rfl _ _ w.heap.size _ _ _ _ rfl HG5.out Tryd.underlying41 rfl (by kernel_rfl)) rfl ?_
  exact ⟨rfl, (below_dr ((Below.refl w.heap.size w).alloc (Nat.le_refl _) _) n1).grown hgr5 (by simp) (fun k e => by cases e; exact Nat.le_refl _)⟩

set_option maxHeartbeats 4000000 in
theorem number_width2 (s r r0 W P : ByteArray) (pt : Bool) (w : World) (hE : Env w) (hs : s.size ≤ 100000) (hr1 : Lib.trimPrefix s.data.toList [43] = r0.data.toList) (hr2 : Lib.trimPrefix r0.data.toList [45] = r.data.toList)
   (_hle : (r.size : Int) ≤ (s.size : Int)) (hWP : (W.size : Int) + (P.size : Int) ≤ 200000) (hc : Lib.cut r.data.toList [46] = (W.data.toList, P.data.toList, pt)) (h1 : (s.size : Int) - (r.size : Int) ≤ 1) (hd : isDigs (W ++ P).data.toList = true) (hpt : pt = true) (hP : P.toList.isEmpty = false) (hl : 18 < (W.size : Int) + (P.size : Int)) :
    Calls Tryd.prog 30 #[.string s] w (ErrPost w 5) := by
  have HE := Lib.hid hE
  have Hr1 := Lib.hid hr1
  have Hr2 := Lib.hid hr2
  subst hpt
  have Hc := Lib.hid hc
  have Hd := Lib.hid hd
  clear hE hr1 hr2 hc hd
  go_enter Tryd.func30, Tryd.ntmps30
  go_wp2_with fail
  refine (trimP_any _ _ r0 _ (by exact Hr1.out)).mono ?_; rintro e w1 ⟨rfl, rfl⟩
  go_wp2_with fail
  refine (trimP_any _ _ r _ (by exact Hr2.out)).mono ?_; rintro e w1 ⟨rfl, rfl⟩
  go_wp2_with fail
  refine (cut_any _ _ W P _ _ (HE.out.below ((Below.refl _ _).alloc (Nat.le_refl _) _)) (by omega) (by exact Hc.out)).mono ?_; rintro e w1 ⟨rfl, n1, rfl⟩
  have hg0 : (((w.alloc (.cells fieldZ 41 (0, 0))).drewN n1).heap[w.heap.size]? = some (.cells fieldZ 41 (0, 0))) := by
    show (w.heap.push _)[w.heap.size]? = _
    simp
  have HG0 := Lib.hid hg0
  clear hg0
  go_wp2_with fail
  refine (isDigits_any _ _ (by simp; unfold maxLen; omega)).mono ?_; rintro e w1 ⟨rfl, rfl⟩
  rw [Hd.out]
  go_wp2_with (refine wpList_store_row rfl _ _ 41 rfl w.heap.size rfl _ rfl _ _ HG0.out rfl (by kernel_rfl) rfl ?_)
  intro w5 hg5 hgr5 hsz5
  have HG5 := Lib.hid hg5
  clear hg5
  go_wp2_with fail
  refine bodyPost_ret (results_row_tmp rfl _ _ w.heap.size _ _ _ _ rfl HG5.out Tryd.underlying41 rfl (by kernel_rfl)) rfl ?_
  exact ⟨rfl, (below_dr ((Below.refl w.heap.size w).alloc (Nat.le_refl _) _) n1).grown hgr5 (by simp) (fun k e => by cases e; exact Nat.le_refl _)⟩
end Go.Proofs.YtphofgokcfdobaaDoor
