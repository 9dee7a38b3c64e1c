/- The law WordsLiteral returns true for every sign and every digits. -/
import Derived.Test.YtphofgokcfdobaaDoorWLives
import Derived.Test.YtphofgokcfdobaaDoorWLitP
import Derived.Test.YtphofgokcfdobaaDoorBytes2
import Derived.Deep.QuietTactic
import Derived.BigQuiet
namespace Go.Proofs.YtphofgokcfdobaaDoor
open Go.RowKit Go.Shelf
set_option maxRecDepth 100000

theorem lit_plain (s PIC : ByteArray) (W P : List UInt8) (n m : Nat) (w : World) (hE : Env w) (hss : s.size ≤ 100000) (hs : s.data.toList = WP.body W P) (hp : PIC.data.toList = WP.pic W P)
    (hW : allDig W = true) (hP : allDig P = true) (hn : W ≠ [] ∨ P ≠ []) (hl : W.length + P.length ≤ 18) (h1 : W.length + P.length = n) (h2 : P.length = m) :
    Calls Tryd.prog 16 #[.agg #[.int .u8 2, .string s, .int .i64 0, .int .i64 0, .bool false]] w fun e w' => ∃ A, e = .returned (.tuple #[.agg #[.int .u8 4, .int .u8 0, .string PIC, .int .i64 n, .int .i64 m, .bool false, .bool false, .bool false, .bool false, .bool false, .int .i64 n, .slice (some ⟨A, 0, none⟩) n n], .int .i64 0]) ∧
      w.heap.size ≤ A ∧ BytesAt w' 5 A (W ++ P) ∧ Below w.heap.size w w' := by
  have hr0 := WP.numR_plain W P hW hP hn hl
  rw [← hs] at hr0
  have hr := (show litR 2 s.data.toList = numR s.data.toList by rw [litR, if_pos rfl]).trans hr0
  refine (lit_ok 2 s _ w hE hss hr).mono fun e w' ⟨A, he, hA, hB, hb⟩ => ⟨A, ?_, hA, hB, hb⟩
  have e2 : (W ++ P).length = n := by rw [List.length_append, h1]
  rw [he, ← h2, ← h1]
  simp only [fieldV, List.length_append]
  rw [← hp]
theorem lit_signed (c : UInt8) (hc : c = 43 ∨ c = 45) (s PIC : ByteArray) (W P : List UInt8) (n m : Nat) (w : World) (hE : Env w) (hss : s.size ≤ 100000) (hs : s.data.toList = c :: WP.body W P) (hp : PIC.data.toList = 83 :: WP.pic W P)
    (hW : allDig W = true) (hP : allDig P = true) (hn : W ≠ [] ∨ P ≠ []) (hl : W.length + P.length ≤ 18) (h1 : W.length + P.length = n) (h2 : P.length = m) :
    Calls Tryd.prog 16 #[.agg #[.int .u8 2, .string s, .int .i64 0, .int .i64 0, .bool false]] w fun e w' => ∃ A, e = .returned (.tuple #[.agg #[.int .u8 4, .int .u8 0, .string PIC, .int .i64 n, .int .i64 m, .bool true, .bool false, .bool false, .bool false, .bool false, .int .i64 n, .slice (some ⟨A, 0, none⟩) n n], .int .i64 0]) ∧
      w.heap.size ≤ A ∧ BytesAt w' 5 A (overpunch (c == 45) (W ++ P)) ∧ Below w.heap.size w w' := by
  have hr0 := WP.numR_signed c hc W P hW hP hn hl
  rw [← hs] at hr0
  have hr := (show litR 2 s.data.toList = numR s.data.toList by rw [litR, if_pos rfl]).trans hr0
  have hpos : 1 ≤ (W ++ P).length := by
    rcases hn with h | h
    · have := List.length_pos_iff.2 h; simp; omega
    · have := List.length_pos_iff.2 h; simp; omega
  refine (lit_ok 2 s _ w hE hss hr).mono fun e w' ⟨A, he, hA, hB, hb⟩ => ⟨A, ?_, hA, hB, hb⟩
  have e2 : (overpunch (c == 45) (W ++ P)).length = n := by rw [overpunch_len _ _ hpos, List.length_append, h1]
  rw [he, ← h2, ← h1]
  simp only [fieldV, e2, ← h1]
  rw [← hp]

theorem allDig_app2 (a b : List UInt8) : (!(a ++ b).isEmpty && allDig (a ++ b)) = (!(a ++ b).isEmpty && (allDig a && allDig b)) := by unfold allDig; simp
theorem over_str (S OB : ByteArray) (tbl : List UInt8) (minus : Bool) (hl : S.size - 1 < S.size) (ht : (if minus then minusT else plusT) = tbl) (h1 : 48 ≤ ((S[S.size - 1]'hl).toNat : Int)) (h2 : ((S[S.size - 1]'hl).toNat : Int) ≤ 57)
    (ho : overpunch minus S.data.toList = OB.data.toList) :
    OB = S.extract 0 (S.size - 1) ++ (⟨tbl.toArray⟩ : ByteArray).extract (((S[S.size - 1]'hl).toNat : Int) - 48).toNat (((S[S.size - 1]'hl).toNat : Int) - 48 + 1).toNat := by
  apply ba_ext
  rw [← ho, data_app', Lib.extract_data, Lib.extract_data, overpunch, ht]
  have hlen : S.data.toList.length = S.size := (Lib.size_eq S).symm
  have htl : tbl.length = 10 := by rw [← ht]; cases minus <;> rfl
  congr 1
  · rw [List.dropLast_eq_take, hlen]; simp
  · have hlast : S.data.toList.getLastD 48 = S[S.size - 1]'hl := by
      rw [List.getLastD_eq_getLast?, List.getLast?_eq_getElem?, hlen, List.getElem?_eq_getElem (by omega)]; rfl
    rw [hlast]
    generalize S[S.size - 1]'hl = D at h1 h2
    have e1 : ((D.toNat : Int) - 48).toNat = D.toNat - 48 := by omega
    have e2 : ((D.toNat : Int) - 48 + 1).toNat = D.toNat - 48 + 1 := by omega
    rw [e1, e2]
    have hd : D.toNat - 48 < tbl.length := by omega
    show [tbl.getD (D.toNat - 48) 0] = (tbl.drop (D.toNat - 48)).take _
    rw [List.drop_eq_getElem_cons hd]
    have : D.toNat - 48 + 1 - (D.toNat - 48) = 0 + 1 := by omega
    rw [this, List.take_succ_cons, List.take_zero, List.getD, List.getElem?_eq_getElem hd]; rfl
def shapeZ : Array Value := #[.int .u8 0, .int .u8 0, .string ⟨#[]⟩, .int .i64 0, .int .i64 0, .bool false, .bool false, .bool false, .bool false, .bool false, .int .i64 0]
theorem WP.pic_len (W P : List UInt8) : (WP.pic W P).length ≤ W.length + P.length + 1 := by
  unfold WP.pic; split <;> simp <;> omega
theorem digits_c (s L : ByteArray) (n : Nat) (w : World) (hs : s.size ≤ maxLen) (hn : n ≤ 1000) (h : dgs n s.data.toList = L.data.toList) :
    Calls Tryd.prog 14 #[.string s, .int .i64 n] w fun e w' => e = .returned (.string L) ∧ Below w.heap.size w w' := by
  have := digits_any s n w hs hn
  rw [h] at this
  rwa [Lib.mk_data] at this

theorem app_ne (W P : ByteArray) (h : W.toList.isEmpty = false ∨ P.toList.isEmpty = false) : (W ++ P).toList.isEmpty = false := by
  simp only [Lib.toList_data, data_app'] at *
  rcases h with h | h
  · cases hq : W.data.toList with
    | nil => rw [hq] at h; cases h
    | cons x t => rfl
  · cases hq : P.data.toList with
    | nil => rw [hq] at h; cases h
    | cons x t => simp
set_option maxHeartbeats 16000000 in
theorem wordsLiteral_1p (sg : Nat) (a b W P : ByteArray) (w : World) (hE : Env w) (hsg : sg < 256) (hsg2 : (((sg : Int) % 2) == 1) = false) (ha : a.size ≤ maxLen) (hb : b.size ≤ maxLen)
    (hW : dgs 12 a.data.toList = W.data.toList) (hPP : dgs 6 b.data.toList = P.data.toList) (hP : P.toList.isEmpty = false) :
    Calls Tryd.prog 4 #[.agg #[.int .u8 sg, .string a, .string b]] w fun e w' => e = .returned (.bool true) ∧ Below w.heap.size w w' := by
  have HE := Lib.hid hE
  have hWd := WP.dgs_dig 12 a.data.toList
  have hPd := WP.dgs_dig 6 b.data.toList
  have hWl := WP.dgs_len 12 a.data.toList
  have hPl := WP.dgs_len 6 b.data.toList
  rw [hW, ← Lib.size_eq] at hWl
  rw [hPP, ← Lib.size_eq] at hPl
  rw [hW] at hWd
  rw [hPP] at hPd
  have HW := Lib.hid hW
  have HPP := Lib.hid hPP
  have HWd := Lib.hid hWd
  have HPd := Lib.hid hPd
  have hWli : (W.size : Int) ≤ 12 := by omega
  have hPli : (P.size : Int) ≤ 6 := by omega
  have hne : (W ++ P).toList.isEmpty = false := app_ne W P (.inr hP)
  clear hE hW hPP hWd hPd
  go_enter Tryd.func4, Tryd.ntmps4
  have hbox : ∀ j, (w.alloc (.cells #[.int .u8 sg, .string a, .string b] 33)).cell? ⟨w.heap.size, j, none⟩ = (#[.int .u8 sg, .string a, .string b] : Array Value)[j]? := fun j => World.cell?_alloc_new _ _ _ _
  have HX := Lib.hid hbox
  clear hbox
  go_wp2_with fail
  refine (digits_c _ W 12 _ ha (by omega) HW.out).mono ?_
  rintro e W1 ⟨rfl, hb1⟩
  have hc1 := fun j => (hb1.cell (p := ⟨w.heap.size, j, none⟩) (by simp)).trans (HX.out j)
  have HB1 := Lib.hid (((Below.refl w.heap.size w).alloc (Nat.le_refl _) _).trans (hb1.mono (by simp)))
  have hz1 : w.heap.size < W1.heap.size := by have := hb1.size; simp at this; omega
  have HC1 := Lib.hid hc1
  clear hb1
  go_wp2_with fail
  refine (digits_c _ P 6 _ hb (by omega) HPP.out).mono ?_
  rintro e W2 ⟨rfl, hb2⟩
  have hc2 := fun j => (hb2.cell (p := ⟨w.heap.size, j, none⟩) hz1).trans (HC1.out j)
  have HB2 := Lib.hid (HB1.out.trans (hb2.mono (by omega)))
  have HC2 := Lib.hid hc2
  have hz2 : w.heap.size < W2.heap.size := by have := hb2.size; omega
  clear hb2 hc1 hc2
  go_wp2_with fail
  refine (repeat1_any _ _ _ (by omega)).mono ?_
  rintro e W3 ⟨rfl, hb3⟩
  have hc3 := fun j => (hb3.cell (p := ⟨w.heap.size, j, none⟩) hz2).trans (HC2.out j)
  have HB3 := Lib.hid (HB2.out.trans (hb3.mono (by omega)))
  have HC3 := Lib.hid hc3
  have hz3 : w.heap.size < W3.heap.size := by have := hb3.size; omega
  clear hb3 hc3
  go_wp2_with fail
  refine (repeat1_any _ _ _ (by omega)).mono ?_
  rintro e W4 ⟨rfl, hb4⟩
  have hc4 := fun j => (hb4.cell (p := ⟨w.heap.size, j, none⟩) hz3).trans (HC3.out j)
  have HB4 := Lib.hid (HB3.out.trans (hb4.mono (by omega)))
  have HC4 := Lib.hid hc4
  have hz4 : w.heap.size < W4.heap.size := by have := hb4.size; omega
  clear hb4 hc4
  go_wp2_with fail
  generalize hbody : W ++ (⟨#[46]⟩ : ByteArray) ++ P = S
  generalize hpic : (⟨Array.replicate W.size 57⟩ : ByteArray) ++ ⟨#[86]⟩ ++ ⟨Array.replicate P.size 57⟩ = PIC
  generalize hall : W ++ P = ALL
  have hPne : P.data.toList ≠ [] := by rw [Lib.toList_data] at hP; intro e; rw [e] at hP; cases hP
  have hS : S.data.toList = WP.body W.data.toList P.data.toList := by rw [← hbody, WP.body, if_neg hPne, data_app', data_app']; simp
  have hPICd : PIC.data.toList = WP.pic W.data.toList P.data.toList := by
    rw [← hpic, WP.pic, if_neg hPne, data_app', data_app', ← Lib.size_eq, ← Lib.size_eq]; simp
  have hA1 : ALL.data.toList = W.data.toList ++ P.data.toList := by rw [← hall, data_app']
  have hAsz : ALL.size = W.size + P.size := by rw [Lib.size_eq, hA1, List.length_append, ← Lib.size_eq, ← Lib.size_eq]
  have hAi : (ALL.size : Int) ≤ 18 := by omega
  have hPpos : 1 ≤ P.size := by rw [Lib.size_eq]; exact List.length_pos_iff.2 hPne
  have hAp : 1 ≤ (ALL.size : Int) := by omega
  have hAp' : 1 ≤ ALL.size := by omega
  have hSz : S.size ≤ 100000 := by have h1 := Lib.size_eq W; have h2 := Lib.size_eq P; rw [Lib.size_eq, hS, WP.body, if_neg hPne]; simp; omega
  have hlp := lit_plain S PIC W.data.toList P.data.toList ALL.size P.size W4 (HE.out.below HB4.out) hSz hS hPICd HWd.out HPd.out (.inr hPne) (by rw [← Lib.size_eq, ← Lib.size_eq]; omega) (by rw [← Lib.size_eq, ← Lib.size_eq, hAsz]) (Lib.size_eq P).symm
  rw [← hA1] at hlp
  have hPz : PIC.size ≤ 100 := by rw [Lib.size_eq, hPICd]; have := WP.pic_len W.data.toList P.data.toList; have h1 := Lib.size_eq W; have h2 := Lib.size_eq P; omega
  have HS := Lib.hid hS
  have HPI := Lib.hid hPICd
  have HA1 := Lib.hid hA1
  have HAsz := Lib.hid hAsz
  have HPne := Lib.hid hPne
  have HALL := Lib.hid hall
  clear hbody hpic hall hS hPICd hA1 hAsz hPne
  refine hlp.mono ?_
  rintro e W5 ⟨A5, rfl, hA5, hBy5, hb5⟩
  have hc5 := fun j => (hb5.cell (p := ⟨w.heap.size, j, none⟩) hz4).trans (HC4.out j)
  have HB5 := Lib.hid (HB4.out.trans (hb5.mono (by omega)))
  have HC5 := Lib.hid hc5
  have hz5 : w.heap.size < W5.heap.size := by have := hb5.size; omega
  have HBy5 := Lib.hid hBy5
  clear hb5 hc5 hBy5 hlp
  have HWr5 := Lib.hid (heap_alloc_new W5 (.cells fieldZ 41 (0, 0)))
  go_wp2_with (refine wpList_store_row rfl _ _ 41 rfl W5.heap.size rfl _ rfl _ _ HWr5.out rfl (by kernel_rfl) rfl ?_)
  intro W6 hg6 hgr6 hsz6
  have hcr6 := fun j => cell_of_row W6 _ j _ _ _ hg6
  have HB6 := Lib.hid (below_store HB5.out HB5.out.size hgr6)
  have HG6 := Lib.hid hg6
  have hc6 := fun j => (World.cell?_of_block (a := ⟨w.heap.size, j, none⟩) ((hgr6.block w.heap.size (by simp; omega) (by simp; omega)).trans (Below.heap_alloc _ _ _ hz5))).trans (HC5.out j)
  have hz6 : W5.heap.size < W6.heap.size := by rw [hsz6]; simp
  have HBy6 := Lib.hid ((HBy5.out.alloc (.cells fieldZ 41 (0, 0))).same (hgr6.block A5 (by have := HBy5.out.lt; simp; omega) (by have := HBy5.out.lt; simp; omega)))
  have HC6 := Lib.hid hc6
  clear hg6 hgr6 hsz6
  have HL := Lib.hid (Lib.size_eq ALL)
  go_upto_region 12 with fail
  rw [HALL.out]
  go_wp2_with (refine wpList_str_n rfl _ 39 9 5 rfl A5 ALL.size ALL.size ALL rfl Tryd.underlying39 Tryd.underlying5 Tryd.underlying9 HL.out.symm _ HBy6.out ?_)
  go_wp2_with fail
  generalize hs2 : (⟨#[43]⟩ : ByteArray) ++ S = S2
  have hS2 : S2.data.toList = 43 :: WP.body W.data.toList P.data.toList := by rw [← hs2, data_app', HS.out]; rfl
  have hS2z : S2.size ≤ 100000 := by have h1 := Lib.size_eq W; have h2 := Lib.size_eq P; rw [Lib.size_eq, hS2, WP.body, if_neg HPne.out]; simp; omega
  obtain ⟨OB, hOB⟩ : ∃ OB : ByteArray, overpunch ((43 : UInt8) == 45) (W.data.toList ++ P.data.toList) = OB.data.toList := ⟨⟨_⟩, rfl⟩
  have hls := lit_signed 43 (.inl rfl) S2 (⟨#[83]⟩ ++ PIC) W.data.toList P.data.toList ALL.size P.size W6 (HE.out.below HB6.out) hS2z hS2 (by rw [data_app', HPI.out]; rfl) HWd.out HPd.out (.inr HPne.out) (by rw [← Lib.size_eq, ← Lib.size_eq]; omega) (by rw [← Lib.size_eq, ← Lib.size_eq, HAsz.out]) (Lib.size_eq P).symm
  rw [hOB] at hls
  rw [← HA1.out] at hOB
  have HOB := Lib.hid hOB
  clear hs2 hS2 hS2z hOB
  refine hls.mono ?_
  rintro e W7 ⟨A7, rfl, hA7, hBy7, hb7⟩
  have HB7 := Lib.hid (HB6.out.trans (hb7.mono HB6.out.size))
  have hc7 := fun j => (hb7.cell (p := ⟨w.heap.size, j, none⟩) (by show w.heap.size < _; omega)).trans (HC6.out j)
  have hz7 : W5.heap.size < W7.heap.size := by have := hb7.size; omega
  have HG7 := Lib.hid ((hb7.block W5.heap.size hz6).trans HG6.out)
  have HC7 := Lib.hid hc7
  have HBy7 := Lib.hid hBy7
  clear hb7 hc7 hBy7 hls hcr6 hc6
  have HWr7 := Lib.hid (heap_alloc_new W7 (.cells fieldZ 41 (0, 0)))
  go_wp2_with (refine wpList_store_row rfl _ _ 41 rfl W7.heap.size rfl _ rfl _ _ HWr7.out rfl (by kernel_rfl) rfl ?_)
  intro W8 hg8 hgr8 hsz8
  have hcr8 := fun j => cell_of_row W8 _ j _ _ _ hg8
  have HB8 := Lib.hid (below_store HB7.out HB7.out.size hgr8)
  have HG8 := Lib.hid ((hgr8.block W5.heap.size (by simp; omega) (by simp; omega)).trans ((Below.heap_alloc _ _ _ hz7).trans HG7.out))
  have hcr8' := fun j => cell_of_row W8 _ j _ _ _ HG8.out
  have HBy8 := Lib.hid ((HBy7.out.alloc (.cells fieldZ 41 (0, 0))).same (hgr8.block A7 (by have := HBy7.out.lt; simp; omega) (by have := HBy7.out.lt; simp; omega)))
  have HSZ8 := Lib.hid hsz8
  clear hg8 hgr8 hsz8
  have hlast : ALL.size - 1 < ALL.size := by omega
  have hlast2 : ALL.size - 1 < ALL.data.toList.length := by rw [← Lib.size_eq]; exact hlast
  have hDg : isDigs ALL.data.toList = true := by
    rw [HA1.out, isDigs, allDig_app2, HWd.out, HPd.out]
    have : W.data.toList ++ P.data.toList ≠ [] := fun e => HPne.out (List.append_eq_nil_iff.1 e).2
    simpa using this
  have hD := isDigs_at _ _ hlast2 hDg
  have hD1 : 48 ≤ ((ALL[ALL.size - 1]'hlast).toNat : Int) := hD.1
  have hD2 : ((ALL[ALL.size - 1]'hlast).toNat : Int) ≤ 57 := hD.2
  clear hD hDg
  have hle : (ALL.size : Int) - 1 ≤ (ALL.size : Int) := by omega
  have hlt1 : (ALL.size : Int) - 1 < (ALL.size : Int) := by omega
  have hge0 : 0 ≤ (ALL.size : Int) - 1 := by omega
  have hw1 : IntKind.u8.wrap (((ALL[ALL.size - 1]'hlast).toNat : Int) - 48) = ((ALL[ALL.size - 1]'hlast).toNat : Int) - 48 := IntWalk.u8_in _ (by omega)
  have hw2 : IntKind.u8.wrap (((ALL[ALL.size - 1]'hlast).toNat : Int) - 48 + 1) = ((ALL[ALL.size - 1]'hlast).toNat : Int) - 48 + 1 := IntWalk.u8_in _ (by omega)
  have hx1 : 0 ≤ ((ALL[ALL.size - 1]'hlast).toNat : Int) - 48 + 1 := by omega
  have hx2 : ((ALL[ALL.size - 1]'hlast).toNat : Int) - 48 + 1 ≤ 10 := by omega
  have hx3 : ((ALL[ALL.size - 1]'hlast).toNat : Int) - 48 ≤ ((ALL[ALL.size - 1]'hlast).toNat : Int) - 48 + 1 := by omega
  have hx4 : ¬ 9223372036854775807 < ALL.size - 1 + ((((ALL[ALL.size - 1]'hlast).toNat : Int) - 48 + 1).toNat - (((ALL[ALL.size - 1]'hlast).toNat : Int) - 48).toNat) := by omega
  go_upto_region 21 with fail
  have hOBe := over_str ALL OB plusT false hlast (by rfl) hD1 hD2 HOB.out
  have HBy8 := HBy8.out
  have hOBl : OB.data.toList.length = ALL.size := by rw [← HOB.out, overpunch_len _ _ (by rw [← Lib.size_eq]; omega), ← Lib.size_eq]
  have hcv : ∀ n, (convert 39 9 (.slice (some ⟨A7, 0, none⟩) ALL.size ALL.size)).run Tryd.prog (W8.drewN n) = .ok (.string (ALL.extract 0 (ALL.size - 1) ++ (⟨#[123, 65, 66, 67, 68, 69, 70, 71, 72, 73]⟩ : ByteArray).extract (((ALL[ALL.size - 1]'hlast).toNat : Int) - 48).toNat (((ALL[ALL.size - 1]'hlast).toNat : Int) - 48 + 1).toNat)) (W8.drewN n) := fun n => by
    have := (BytesAt.same (w' := W8.drewN n) HBy8 rfl).str (P := Tryd.prog) 39 9 5 ALL.size Tryd.underlying39 Tryd.underlying5 Tryd.underlying9
    rw [hOBl] at this
    rw [this]
    exact congrArg (fun b => Result.ok (Value.string b) (W8.drewN n)) hOBe
  clear HBy8 hOBe hOBl
  go_quiet (fail)
  clear hcv hw1 hw2
  have HWr8 := Lib.hid (heap_alloc_new (W8.drewN nq) (.cells shapeZ 38 (0, 0)))
  have hz78 : W7.heap.size < W8.heap.size := by rw [HSZ8.out]; simp
  have hz58 : W5.heap.size < W8.heap.size := by omega
  have hdz : (W8.drewN nq).heap.size = W8.heap.size := rfl
  have HDZ := Lib.hid hdz
  clear hdz
  go_wp2_with (refine wpList_store_row rfl _ _ 38 rfl W8.heap.size rfl _ rfl _ _ HWr8.out rfl (by kernel_rfl) rfl ?_)
  intro W9 hg9 hgr9 hsz9
  have hcr9 := fun j => cell_of_row W9 _ j _ _ _ hg9
  have hfr9 := fun j => frozen_of_row W9 _ j _ _ hg9
  have hcr9' := fun j => (World.cell?_of_block (a := ⟨W7.heap.size, j, none⟩) ((hgr9.block W7.heap.size (by simp; omega) (by simp; omega)).trans (Below.heap_alloc (W8.drewN nq) _ _ hz78))).trans (hcr8 j)
  have HB9 := Lib.hid (((below_dr HB8.out nq).alloc HB8.out.size _).grown hgr9 (by have := HB8.out.size; simp; omega) (fun k e => by cases e; exact HB8.out.size))
  have HSZ9 := Lib.hid hsz9
  have hne79 : W7.heap.size ≠ W8.heap.size := by omega
  clear hg9 hgr9 hsz9 hcr8 hcr8'
  go_wp2_with fail
  have HBF := Lib.hid ((HB9.out.setCell (p := ⟨W8.heap.size, 5, none⟩) HB8.out.size (Value.bool true)).setCell (p := ⟨W8.heap.size, 2, none⟩) HB8.out.size (Value.string ((⟨#[83]⟩ : ByteArray) ++ PIC)))
  refine (lives_any _ (HE.out.below HBF.out)).mono ?_
  rintro e WF ⟨rfl, hbf⟩
  go_wp2_with fail
  go_ret
  exact ⟨rfl, HBF.out.trans (hbf.mono HBF.out.size)⟩
set_option maxHeartbeats 16000000 in
theorem wordsLiteral_1m (sg : Nat) (a b W P : ByteArray) (w : World) (hE : Env w) (hsg : sg < 256) (hsg2 : (((sg : Int) % 2) == 1) = true) (ha : a.size ≤ maxLen) (hb : b.size ≤ maxLen)
    (hW : dgs 12 a.data.toList = W.data.toList) (hPP : dgs 6 b.data.toList = P.data.toList) (hP : P.toList.isEmpty = false) :
    Calls Tryd.prog 4 #[.agg #[.int .u8 sg, .string a, .string b]] w fun e w' => e = .returned (.bool true) ∧ Below w.heap.size w w' := by
  have HE := Lib.hid hE
  have hWd := WP.dgs_dig 12 a.data.toList
  have hPd := WP.dgs_dig 6 b.data.toList
  have hWl := WP.dgs_len 12 a.data.toList
  have hPl := WP.dgs_len 6 b.data.toList
  rw [hW, ← Lib.size_eq] at hWl
  rw [hPP, ← Lib.size_eq] at hPl
  rw [hW] at hWd
  rw [hPP] at hPd
  have HW := Lib.hid hW
  have HPP := Lib.hid hPP
  have HWd := Lib.hid hWd
  have HPd := Lib.hid hPd
  have hWli : (W.size : Int) ≤ 12 := by omega
  have hPli : (P.size : Int) ≤ 6 := by omega
  have hne : (W ++ P).toList.isEmpty = false := app_ne W P (.inr hP)
  clear hE hW hPP hWd hPd
  go_enter Tryd.func4, Tryd.ntmps4
  have hbox : ∀ j, (w.alloc (.cells #[.int .u8 sg, .string a, .string b] 33)).cell? ⟨w.heap.size, j, none⟩ = (#[.int .u8 sg, .string a, .string b] : Array Value)[j]? := fun j => World.cell?_alloc_new _ _ _ _
  have HX := Lib.hid hbox
  clear hbox
  go_wp2_with fail
  refine (digits_c _ W 12 _ ha (by omega) HW.out).mono ?_
  rintro e W1 ⟨rfl, hb1⟩
  have hc1 := fun j => (hb1.cell (p := ⟨w.heap.size, j, none⟩) (by simp)).trans (HX.out j)
  have HB1 := Lib.hid (((Below.refl w.heap.size w).alloc (Nat.le_refl _) _).trans (hb1.mono (by simp)))
  have hz1 : w.heap.size < W1.heap.size := by have := hb1.size; simp at this; omega
  have HC1 := Lib.hid hc1
  clear hb1
  go_wp2_with fail
  refine (digits_c _ P 6 _ hb (by omega) HPP.out).mono ?_
  rintro e W2 ⟨rfl, hb2⟩
  have hc2 := fun j => (hb2.cell (p := ⟨w.heap.size, j, none⟩) hz1).trans (HC1.out j)
  have HB2 := Lib.hid (HB1.out.trans (hb2.mono (by omega)))
  have HC2 := Lib.hid hc2
  have hz2 : w.heap.size < W2.heap.size := by have := hb2.size; omega
  clear hb2 hc1 hc2
  go_wp2_with fail
  refine (repeat1_any _ _ _ (by omega)).mono ?_
  rintro e W3 ⟨rfl, hb3⟩
  have hc3 := fun j => (hb3.cell (p := ⟨w.heap.size, j, none⟩) hz2).trans (HC2.out j)
  have HB3 := Lib.hid (HB2.out.trans (hb3.mono (by omega)))
  have HC3 := Lib.hid hc3
  have hz3 : w.heap.size < W3.heap.size := by have := hb3.size; omega
  clear hb3 hc3
  go_wp2_with fail
  refine (repeat1_any _ _ _ (by omega)).mono ?_
  rintro e W4 ⟨rfl, hb4⟩
  have hc4 := fun j => (hb4.cell (p := ⟨w.heap.size, j, none⟩) hz3).trans (HC3.out j)
  have HB4 := Lib.hid (HB3.out.trans (hb4.mono (by omega)))
  have HC4 := Lib.hid hc4
  have hz4 : w.heap.size < W4.heap.size := by have := hb4.size; omega
  clear hb4 hc4
  go_wp2_with fail
  generalize hbody : W ++ (⟨#[46]⟩ : ByteArray) ++ P = S
  generalize hpic : (⟨Array.replicate W.size 57⟩ : ByteArray) ++ ⟨#[86]⟩ ++ ⟨Array.replicate P.size 57⟩ = PIC
  generalize hall : W ++ P = ALL
  have hPne : P.data.toList ≠ [] := by rw [Lib.toList_data] at hP; intro e; rw [e] at hP; cases hP
  have hS : S.data.toList = WP.body W.data.toList P.data.toList := by rw [← hbody, WP.body, if_neg hPne, data_app', data_app']; simp
  have hPICd : PIC.data.toList = WP.pic W.data.toList P.data.toList := by
    rw [← hpic, WP.pic, if_neg hPne, data_app', data_app', ← Lib.size_eq, ← Lib.size_eq]; simp
  have hA1 : ALL.data.toList = W.data.toList ++ P.data.toList := by rw [← hall, data_app']
  have hAsz : ALL.size = W.size + P.size := by rw [Lib.size_eq, hA1, List.length_append, ← Lib.size_eq, ← Lib.size_eq]
  have hAi : (ALL.size : Int) ≤ 18 := by omega
  have hPpos : 1 ≤ P.size := by rw [Lib.size_eq]; exact List.length_pos_iff.2 hPne
  have hAp : 1 ≤ (ALL.size : Int) := by omega
  have hAp' : 1 ≤ ALL.size := by omega
  have hSz : S.size ≤ 100000 := by have h1 := Lib.size_eq W; have h2 := Lib.size_eq P; rw [Lib.size_eq, hS, WP.body, if_neg hPne]; simp; omega
  have hlp := lit_plain S PIC W.data.toList P.data.toList ALL.size P.size W4 (HE.out.below HB4.out) hSz hS hPICd HWd.out HPd.out (.inr hPne) (by rw [← Lib.size_eq, ← Lib.size_eq]; omega) (by rw [← Lib.size_eq, ← Lib.size_eq, hAsz]) (Lib.size_eq P).symm
  rw [← hA1] at hlp
  have hPz : PIC.size ≤ 100 := by rw [Lib.size_eq, hPICd]; have := WP.pic_len W.data.toList P.data.toList; have h1 := Lib.size_eq W; have h2 := Lib.size_eq P; omega
  have HS := Lib.hid hS
  have HPI := Lib.hid hPICd
  have HA1 := Lib.hid hA1
  have HAsz := Lib.hid hAsz
  have HPne := Lib.hid hPne
  have HALL := Lib.hid hall
  clear hbody hpic hall hS hPICd hA1 hAsz hPne
  refine hlp.mono ?_
  rintro e W5 ⟨A5, rfl, hA5, hBy5, hb5⟩
  have hc5 := fun j => (hb5.cell (p := ⟨w.heap.size, j, none⟩) hz4).trans (HC4.out j)
  have HB5 := Lib.hid (HB4.out.trans (hb5.mono (by omega)))
  have HC5 := Lib.hid hc5
  have hz5 : w.heap.size < W5.heap.size := by have := hb5.size; omega
  have HBy5 := Lib.hid hBy5
  clear hb5 hc5 hBy5 hlp
  have HWr5 := Lib.hid (heap_alloc_new W5 (.cells fieldZ 41 (0, 0)))
  go_wp2_with (refine wpList_store_row rfl _ _ 41 rfl W5.heap.size rfl _ rfl _ _ HWr5.out rfl (by kernel_rfl) rfl ?_)
  intro W6 hg6 hgr6 hsz6
  have hcr6 := fun j => cell_of_row W6 _ j _ _ _ hg6
  have HB6 := Lib.hid (below_store HB5.out HB5.out.size hgr6)
  have HG6 := Lib.hid hg6
  have hc6 := fun j => (World.cell?_of_block (a := ⟨w.heap.size, j, none⟩) ((hgr6.block w.heap.size (by simp; omega) (by simp; omega)).trans (Below.heap_alloc _ _ _ hz5))).trans (HC5.out j)
  have hz6 : W5.heap.size < W6.heap.size := by rw [hsz6]; simp
  have HBy6 := Lib.hid ((HBy5.out.alloc (.cells fieldZ 41 (0, 0))).same (hgr6.block A5 (by have := HBy5.out.lt; simp; omega) (by have := HBy5.out.lt; simp; omega)))
  have HC6 := Lib.hid hc6
  clear hg6 hgr6 hsz6
  have HL := Lib.hid (Lib.size_eq ALL)
  go_upto_region 12 with fail
  rw [HALL.out]
  go_wp2_with (refine wpList_str_n rfl _ 39 9 5 rfl A5 ALL.size ALL.size ALL rfl Tryd.underlying39 Tryd.underlying5 Tryd.underlying9 HL.out.symm _ HBy6.out ?_)
  go_wp2_with fail
  generalize hs2 : (⟨#[45]⟩ : ByteArray) ++ S = S2
  have hS2 : S2.data.toList = 45 :: WP.body W.data.toList P.data.toList := by rw [← hs2, data_app', HS.out]; rfl
  have hS2z : S2.size ≤ 100000 := by have h1 := Lib.size_eq W; have h2 := Lib.size_eq P; rw [Lib.size_eq, hS2, WP.body, if_neg HPne.out]; simp; omega
  obtain ⟨OB, hOB⟩ : ∃ OB : ByteArray, overpunch ((45 : UInt8) == 45) (W.data.toList ++ P.data.toList) = OB.data.toList := ⟨⟨_⟩, rfl⟩
  have hls := lit_signed 45 (.inr rfl) S2 (⟨#[83]⟩ ++ PIC) W.data.toList P.data.toList ALL.size P.size W6 (HE.out.below HB6.out) hS2z hS2 (by rw [data_app', HPI.out]; rfl) HWd.out HPd.out (.inr HPne.out) (by rw [← Lib.size_eq, ← Lib.size_eq]; omega) (by rw [← Lib.size_eq, ← Lib.size_eq, HAsz.out]) (Lib.size_eq P).symm
  rw [hOB] at hls
  rw [← HA1.out] at hOB
  have HOB := Lib.hid hOB
  clear hs2 hS2 hS2z hOB
  refine hls.mono ?_
  rintro e W7 ⟨A7, rfl, hA7, hBy7, hb7⟩
  have HB7 := Lib.hid (HB6.out.trans (hb7.mono HB6.out.size))
  have hc7 := fun j => (hb7.cell (p := ⟨w.heap.size, j, none⟩) (by show w.heap.size < _; omega)).trans (HC6.out j)
  have hz7 : W5.heap.size < W7.heap.size := by have := hb7.size; omega
  have HG7 := Lib.hid ((hb7.block W5.heap.size hz6).trans HG6.out)
  have HC7 := Lib.hid hc7
  have HBy7 := Lib.hid hBy7
  clear hb7 hc7 hBy7 hls hcr6 hc6
  have HWr7 := Lib.hid (heap_alloc_new W7 (.cells fieldZ 41 (0, 0)))
  go_wp2_with (refine wpList_store_row rfl _ _ 41 rfl W7.heap.size rfl _ rfl _ _ HWr7.out rfl (by kernel_rfl) rfl ?_)
  intro W8 hg8 hgr8 hsz8
  have hcr8 := fun j => cell_of_row W8 _ j _ _ _ hg8
  have HB8 := Lib.hid (below_store HB7.out HB7.out.size hgr8)
  have HG8 := Lib.hid ((hgr8.block W5.heap.size (by simp; omega) (by simp; omega)).trans ((Below.heap_alloc _ _ _ hz7).trans HG7.out))
  have hcr8' := fun j => cell_of_row W8 _ j _ _ _ HG8.out
  have HBy8 := Lib.hid ((HBy7.out.alloc (.cells fieldZ 41 (0, 0))).same (hgr8.block A7 (by have := HBy7.out.lt; simp; omega) (by have := HBy7.out.lt; simp; omega)))
  have HSZ8 := Lib.hid hsz8
  clear hg8 hgr8 hsz8
  have hlast : ALL.size - 1 < ALL.size := by omega
  have hlast2 : ALL.size - 1 < ALL.data.toList.length := by rw [← Lib.size_eq]; exact hlast
  have hDg : isDigs ALL.data.toList = true := by
    rw [HA1.out, isDigs, allDig_app2, HWd.out, HPd.out]
    have : W.data.toList ++ P.data.toList ≠ [] := fun e => HPne.out (List.append_eq_nil_iff.1 e).2
    simpa using this
  have hD := isDigs_at _ _ hlast2 hDg
  have hD1 : 48 ≤ ((ALL[ALL.size - 1]'hlast).toNat : Int) := hD.1
  have hD2 : ((ALL[ALL.size - 1]'hlast).toNat : Int) ≤ 57 := hD.2
  clear hD hDg
  have hle : (ALL.size : Int) - 1 ≤ (ALL.size : Int) := by omega
  have hlt1 : (ALL.size : Int) - 1 < (ALL.size : Int) := by omega
  have hge0 : 0 ≤ (ALL.size : Int) - 1 := by omega
  have hw1 : IntKind.u8.wrap (((ALL[ALL.size - 1]'hlast).toNat : Int) - 48) = ((ALL[ALL.size - 1]'hlast).toNat : Int) - 48 := IntWalk.u8_in _ (by omega)
  have hw2 : IntKind.u8.wrap (((ALL[ALL.size - 1]'hlast).toNat : Int) - 48 + 1) = ((ALL[ALL.size - 1]'hlast).toNat : Int) - 48 + 1 := IntWalk.u8_in _ (by omega)
  have hx1 : 0 ≤ ((ALL[ALL.size - 1]'hlast).toNat : Int) - 48 + 1 := by omega
  have hx2 : ((ALL[ALL.size - 1]'hlast).toNat : Int) - 48 + 1 ≤ 10 := by omega
  have hx3 : ((ALL[ALL.size - 1]'hlast).toNat : Int) - 48 ≤ ((ALL[ALL.size - 1]'hlast).toNat : Int) - 48 + 1 := by omega
  have hx4 : ¬ 9223372036854775807 < ALL.size - 1 + ((((ALL[ALL.size - 1]'hlast).toNat : Int) - 48 + 1).toNat - (((ALL[ALL.size - 1]'hlast).toNat : Int) - 48).toNat) := by omega
  go_upto_region 21 with fail
  have hOBe := over_str ALL OB minusT true hlast (by rfl) hD1 hD2 HOB.out
  have HBy8 := HBy8.out
  have hOBl : OB.data.toList.length = ALL.size := by rw [← HOB.out, overpunch_len _ _ (by rw [← Lib.size_eq]; omega), ← Lib.size_eq]
  have hcv : ∀ n, (convert 39 9 (.slice (some ⟨A7, 0, none⟩) ALL.size ALL.size)).run Tryd.prog (W8.drewN n) = .ok (.string (ALL.extract 0 (ALL.size - 1) ++ (⟨#[125, 74, 75, 76, 77, 78, 79, 80, 81, 82]⟩ : ByteArray).extract (((ALL[ALL.size - 1]'hlast).toNat : Int) - 48).toNat (((ALL[ALL.size - 1]'hlast).toNat : Int) - 48 + 1).toNat)) (W8.drewN n) := fun n => by
    have := (BytesAt.same (w' := W8.drewN n) HBy8 rfl).str (P := Tryd.prog) 39 9 5 ALL.size Tryd.underlying39 Tryd.underlying5 Tryd.underlying9
    rw [hOBl] at this
    rw [this]
    exact congrArg (fun b => Result.ok (Value.string b) (W8.drewN n)) hOBe
  clear HBy8 hOBe hOBl
  go_quiet (fail)
  clear hcv hw1 hw2
  have HWr8 := Lib.hid (heap_alloc_new (W8.drewN nq) (.cells shapeZ 38 (0, 0)))
  have hz78 : W7.heap.size < W8.heap.size := by rw [HSZ8.out]; simp
  have hz58 : W5.heap.size < W8.heap.size := by omega
  have hdz : (W8.drewN nq).heap.size = W8.heap.size := rfl
  have HDZ := Lib.hid hdz
  clear hdz
  go_wp2_with (refine wpList_store_row rfl _ _ 38 rfl W8.heap.size rfl _ rfl _ _ HWr8.out rfl (by kernel_rfl) rfl ?_)
  intro W9 hg9 hgr9 hsz9
  have hcr9 := fun j => cell_of_row W9 _ j _ _ _ hg9
  have hfr9 := fun j => frozen_of_row W9 _ j _ _ hg9
  have hcr9' := fun j => (World.cell?_of_block (a := ⟨W7.heap.size, j, none⟩) ((hgr9.block W7.heap.size (by simp; omega) (by simp; omega)).trans (Below.heap_alloc (W8.drewN nq) _ _ hz78))).trans (hcr8 j)
  have HB9 := Lib.hid (((below_dr HB8.out nq).alloc HB8.out.size _).grown hgr9 (by have := HB8.out.size; simp; omega) (fun k e => by cases e; exact HB8.out.size))
  have HSZ9 := Lib.hid hsz9
  have hne79 : W7.heap.size ≠ W8.heap.size := by omega
  clear hg9 hgr9 hsz9 hcr8 hcr8'
  go_wp2_with fail
  have HBF := Lib.hid ((HB9.out.setCell (p := ⟨W8.heap.size, 5, none⟩) HB8.out.size (Value.bool true)).setCell (p := ⟨W8.heap.size, 2, none⟩) HB8.out.size (Value.string ((⟨#[83]⟩ : ByteArray) ++ PIC)))
  refine (lives_any _ (HE.out.below HBF.out)).mono ?_
  rintro e WF ⟨rfl, hbf⟩
  go_wp2_with fail
  go_ret
  exact ⟨rfl, HBF.out.trans (hbf.mono HBF.out.size)⟩
set_option maxHeartbeats 16000000 in
theorem wordsLiteral_0p (sg : Nat) (a b W P : ByteArray) (w : World) (hE : Env w) (hsg : sg < 256) (hsg2 : (((sg : Int) % 2) == 1) = false) (ha : a.size ≤ maxLen) (hb : b.size ≤ maxLen)
    (hW : dgs 12 a.data.toList = W.data.toList) (hPP : dgs 6 b.data.toList = P.data.toList) (hP : P.toList.isEmpty = true) (hWn : W.toList.isEmpty = false) :
    Calls Tryd.prog 4 #[.agg #[.int .u8 sg, .string a, .string b]] w fun e w' => e = .returned (.bool true) ∧ Below w.heap.size w w' := by
  have HE := Lib.hid hE
  have hWd := WP.dgs_dig 12 a.data.toList
  have hPd := WP.dgs_dig 6 b.data.toList
  have hWl := WP.dgs_len 12 a.data.toList
  have hPl := WP.dgs_len 6 b.data.toList
  rw [hW, ← Lib.size_eq] at hWl
  rw [hPP, ← Lib.size_eq] at hPl
  rw [hW] at hWd
  rw [hPP] at hPd
  have HW := Lib.hid hW
  have HPP := Lib.hid hPP
  have HWd := Lib.hid hWd
  have HPd := Lib.hid hPd
  have hWli : (W.size : Int) ≤ 12 := by omega
  have hPli : (P.size : Int) ≤ 6 := by omega
  have hne : (W ++ P).toList.isEmpty = false := app_ne W P (.inl hWn)
  clear hE hW hPP hWd hPd
  go_enter Tryd.func4, Tryd.ntmps4
  have hbox : ∀ j, (w.alloc (.cells #[.int .u8 sg, .string a, .string b] 33)).cell? ⟨w.heap.size, j, none⟩ = (#[.int .u8 sg, .string a, .string b] : Array Value)[j]? := fun j => World.cell?_alloc_new _ _ _ _
  have HX := Lib.hid hbox
  clear hbox
  go_wp2_with fail
  refine (digits_c _ W 12 _ ha (by omega) HW.out).mono ?_
  rintro e W1 ⟨rfl, hb1⟩
  have hc1 := fun j => (hb1.cell (p := ⟨w.heap.size, j, none⟩) (by simp)).trans (HX.out j)
  have HB1 := Lib.hid (((Below.refl w.heap.size w).alloc (Nat.le_refl _) _).trans (hb1.mono (by simp)))
  have hz1 : w.heap.size < W1.heap.size := by have := hb1.size; simp at this; omega
  have HC1 := Lib.hid hc1
  clear hb1
  go_wp2_with fail
  refine (digits_c _ P 6 _ hb (by omega) HPP.out).mono ?_
  rintro e W2 ⟨rfl, hb2⟩
  have hc2 := fun j => (hb2.cell (p := ⟨w.heap.size, j, none⟩) hz1).trans (HC1.out j)
  have HB2 := Lib.hid (HB1.out.trans (hb2.mono (by omega)))
  have HC2 := Lib.hid hc2
  have hz2 : w.heap.size < W2.heap.size := by have := hb2.size; omega
  clear hb2 hc1 hc2
  go_wp2_with fail
  refine (repeat1_any _ _ _ (by omega)).mono ?_
  rintro e W3 ⟨rfl, hb3⟩
  have hc3 := fun j => (hb3.cell (p := ⟨w.heap.size, j, none⟩) hz2).trans (HC2.out j)
  have HB3 := Lib.hid (HB2.out.trans (hb3.mono (by omega)))
  have HC3 := Lib.hid hc3
  have hz3 : w.heap.size < W3.heap.size := by have := hb3.size; omega
  clear hb3 hc3
  obtain ⟨W4, hW4⟩ : ∃ W4 : World, W4 = W3 := ⟨_, rfl⟩
  subst hW4
  have HB4 := HB3
  have HC4 := HC3
  have hz4 := hz3
  go_wp2_with fail
  have hPe : P.data.toList = [] := by rw [Lib.toList_data] at hP; simpa using hP
  have hWne : W.data.toList ≠ [] := by rw [Lib.toList_data] at hWn; intro e; rw [e] at hWn; cases hWn
  generalize hpic : (⟨Array.replicate W.size 57⟩ : ByteArray) = PIC
  generalize hall : W ++ P = ALL
  have hS : W.data.toList = WP.body W.data.toList P.data.toList := by rw [WP.body, if_pos hPe]
  have hPICd : PIC.data.toList = WP.pic W.data.toList P.data.toList := by
    rw [← hpic, WP.pic, if_pos hPe, ← Lib.size_eq]; simp
  have hA1 : ALL.data.toList = W.data.toList ++ P.data.toList := by rw [← hall, data_app']
  have hAsz : ALL.size = W.size + P.size := by rw [Lib.size_eq, hA1, List.length_append, ← Lib.size_eq, ← Lib.size_eq]
  have hAi : (ALL.size : Int) ≤ 18 := by omega
  have hPpos : 1 ≤ W.size := by rw [Lib.size_eq]; exact List.length_pos_iff.2 hWne
  have hAp : 1 ≤ (ALL.size : Int) := by omega
  have hAp' : 1 ≤ ALL.size := by omega
  have hSz : W.size ≤ 100000 := by have h1 := Lib.size_eq W; have h2 := Lib.size_eq P; omega
  have hlp := lit_plain W PIC W.data.toList P.data.toList ALL.size P.size W4 (HE.out.below HB4.out) hSz hS hPICd HWd.out HPd.out (.inl hWne) (by rw [← Lib.size_eq, ← Lib.size_eq]; omega) (by rw [← Lib.size_eq, ← Lib.size_eq, hAsz]) (Lib.size_eq P).symm
  rw [← hA1] at hlp
  have hPz : PIC.size ≤ 100 := by rw [Lib.size_eq, hPICd]; have := WP.pic_len W.data.toList P.data.toList; have h1 := Lib.size_eq W; have h2 := Lib.size_eq P; omega
  have HS := Lib.hid hS
  have HPI := Lib.hid hPICd
  have HA1 := Lib.hid hA1
  have HAsz := Lib.hid hAsz
  have HPne := Lib.hid (And.intro hPe hWne)
  have HALL := Lib.hid hall
  clear hpic hall hS hPICd hA1 hAsz hPe hWne
  refine hlp.mono ?_
  rintro e W5 ⟨A5, rfl, hA5, hBy5, hb5⟩
  have hc5 := fun j => (hb5.cell (p := ⟨w.heap.size, j, none⟩) hz4).trans (HC4.out j)
  have HB5 := Lib.hid (HB4.out.trans (hb5.mono (by omega)))
  have HC5 := Lib.hid hc5
  have hz5 : w.heap.size < W5.heap.size := by have := hb5.size; omega
  have HBy5 := Lib.hid hBy5
  clear hb5 hc5 hBy5 hlp
  have HWr5 := Lib.hid (heap_alloc_new W5 (.cells fieldZ 41 (0, 0)))
  go_wp2_with (refine wpList_store_row rfl _ _ 41 rfl W5.heap.size rfl _ rfl _ _ HWr5.out rfl (by kernel_rfl) rfl ?_)
  intro W6 hg6 hgr6 hsz6
  have hcr6 := fun j => cell_of_row W6 _ j _ _ _ hg6
  have HB6 := Lib.hid (below_store HB5.out HB5.out.size hgr6)
  have HG6 := Lib.hid hg6
  have hc6 := fun j => (World.cell?_of_block (a := ⟨w.heap.size, j, none⟩) ((hgr6.block w.heap.size (by simp; omega) (by simp; omega)).trans (Below.heap_alloc _ _ _ hz5))).trans (HC5.out j)
  have hz6 : W5.heap.size < W6.heap.size := by rw [hsz6]; simp
  have HBy6 := Lib.hid ((HBy5.out.alloc (.cells fieldZ 41 (0, 0))).same (hgr6.block A5 (by have := HBy5.out.lt; simp; omega) (by have := HBy5.out.lt; simp; omega)))
  have HC6 := Lib.hid hc6
  clear hg6 hgr6 hsz6
  have HL := Lib.hid (Lib.size_eq ALL)
  go_upto_region 12 with fail
  rw [HALL.out]
  go_wp2_with (refine wpList_str_n rfl _ 39 9 5 rfl A5 ALL.size ALL.size ALL rfl Tryd.underlying39 Tryd.underlying5 Tryd.underlying9 HL.out.symm _ HBy6.out ?_)
  go_wp2_with fail
  generalize hs2 : (⟨#[43]⟩ : ByteArray) ++ W = S2
  have hS2 : S2.data.toList = 43 :: WP.body W.data.toList P.data.toList := by rw [← hs2, data_app', WP.body, if_pos HPne.out.1]; rfl
  have hS2z : S2.size ≤ 100000 := by have h1 := Lib.size_eq W; have h2 := Lib.size_eq P; rw [Lib.size_eq, hS2, WP.body, if_pos HPne.out.1]; simp; omega
  obtain ⟨OB, hOB⟩ : ∃ OB : ByteArray, overpunch ((43 : UInt8) == 45) (W.data.toList ++ P.data.toList) = OB.data.toList := ⟨⟨_⟩, rfl⟩
  have hls := lit_signed 43 (.inl rfl) S2 (⟨#[83]⟩ ++ PIC) W.data.toList P.data.toList ALL.size P.size W6 (HE.out.below HB6.out) hS2z hS2 (by rw [data_app', HPI.out]; rfl) HWd.out HPd.out (.inl HPne.out.2) (by rw [← Lib.size_eq, ← Lib.size_eq]; omega) (by rw [← Lib.size_eq, ← Lib.size_eq, HAsz.out]) (Lib.size_eq P).symm
  rw [hOB] at hls
  rw [← HA1.out] at hOB
  have HOB := Lib.hid hOB
  clear hs2 hS2 hS2z hOB
  refine hls.mono ?_
  rintro e W7 ⟨A7, rfl, hA7, hBy7, hb7⟩
  have HB7 := Lib.hid (HB6.out.trans (hb7.mono HB6.out.size))
  have hc7 := fun j => (hb7.cell (p := ⟨w.heap.size, j, none⟩) (by show w.heap.size < _; omega)).trans (HC6.out j)
  have hz7 : W5.heap.size < W7.heap.size := by have := hb7.size; omega
  have HG7 := Lib.hid ((hb7.block W5.heap.size hz6).trans HG6.out)
  have HC7 := Lib.hid hc7
  have HBy7 := Lib.hid hBy7
  clear hb7 hc7 hBy7 hls hcr6 hc6
  have HWr7 := Lib.hid (heap_alloc_new W7 (.cells fieldZ 41 (0, 0)))
  go_wp2_with (refine wpList_store_row rfl _ _ 41 rfl W7.heap.size rfl _ rfl _ _ HWr7.out rfl (by kernel_rfl) rfl ?_)
  intro W8 hg8 hgr8 hsz8
  have hcr8 := fun j => cell_of_row W8 _ j _ _ _ hg8
  have HB8 := Lib.hid (below_store HB7.out HB7.out.size hgr8)
  have HG8 := Lib.hid ((hgr8.block W5.heap.size (by simp; omega) (by simp; omega)).trans ((Below.heap_alloc _ _ _ hz7).trans HG7.out))
  have hcr8' := fun j => cell_of_row W8 _ j _ _ _ HG8.out
  have HBy8 := Lib.hid ((HBy7.out.alloc (.cells fieldZ 41 (0, 0))).same (hgr8.block A7 (by have := HBy7.out.lt; simp; omega) (by have := HBy7.out.lt; simp; omega)))
  have HSZ8 := Lib.hid hsz8
  clear hg8 hgr8 hsz8
  have hlast : ALL.size - 1 < ALL.size := by omega
  have hlast2 : ALL.size - 1 < ALL.data.toList.length := by rw [← Lib.size_eq]; exact hlast
  have hDg : isDigs ALL.data.toList = true := by
    rw [HA1.out, isDigs, allDig_app2, HWd.out, HPd.out]
    have : W.data.toList ++ P.data.toList ≠ [] := fun e => HPne.out.2 (List.append_eq_nil_iff.1 e).1
    simpa using this
  have hD := isDigs_at _ _ hlast2 hDg
  have hD1 : 48 ≤ ((ALL[ALL.size - 1]'hlast).toNat : Int) := hD.1
  have hD2 : ((ALL[ALL.size - 1]'hlast).toNat : Int) ≤ 57 := hD.2
  clear hD hDg
  have hle : (ALL.size : Int) - 1 ≤ (ALL.size : Int) := by omega
  have hlt1 : (ALL.size : Int) - 1 < (ALL.size : Int) := by omega
  have hge0 : 0 ≤ (ALL.size : Int) - 1 := by omega
  have hw1 : IntKind.u8.wrap (((ALL[ALL.size - 1]'hlast).toNat : Int) - 48) = ((ALL[ALL.size - 1]'hlast).toNat : Int) - 48 := IntWalk.u8_in _ (by omega)
  have hw2 : IntKind.u8.wrap (((ALL[ALL.size - 1]'hlast).toNat : Int) - 48 + 1) = ((ALL[ALL.size - 1]'hlast).toNat : Int) - 48 + 1 := IntWalk.u8_in _ (by omega)
  have hx1 : 0 ≤ ((ALL[ALL.size - 1]'hlast).toNat : Int) - 48 + 1 := by omega
  have hx2 : ((ALL[ALL.size - 1]'hlast).toNat : Int) - 48 + 1 ≤ 10 := by omega
  have hx3 : ((ALL[ALL.size - 1]'hlast).toNat : Int) - 48 ≤ ((ALL[ALL.size - 1]'hlast).toNat : Int) - 48 + 1 := by omega
  have hx4 : ¬ 9223372036854775807 < ALL.size - 1 + ((((ALL[ALL.size - 1]'hlast).toNat : Int) - 48 + 1).toNat - (((ALL[ALL.size - 1]'hlast).toNat : Int) - 48).toNat) := by omega
  go_upto_region 21 with fail
  have hOBe := over_str ALL OB plusT false hlast (by rfl) hD1 hD2 HOB.out
  have HBy8 := HBy8.out
  have hOBl : OB.data.toList.length = ALL.size := by rw [← HOB.out, overpunch_len _ _ (by rw [← Lib.size_eq]; omega), ← Lib.size_eq]
  have hcv : ∀ n, (convert 39 9 (.slice (some ⟨A7, 0, none⟩) ALL.size ALL.size)).run Tryd.prog (W8.drewN n) = .ok (.string (ALL.extract 0 (ALL.size - 1) ++ (⟨#[123, 65, 66, 67, 68, 69, 70, 71, 72, 73]⟩ : ByteArray).extract (((ALL[ALL.size - 1]'hlast).toNat : Int) - 48).toNat (((ALL[ALL.size - 1]'hlast).toNat : Int) - 48 + 1).toNat)) (W8.drewN n) := fun n => by
    have := (BytesAt.same (w' := W8.drewN n) HBy8 rfl).str (P := Tryd.prog) 39 9 5 ALL.size Tryd.underlying39 Tryd.underlying5 Tryd.underlying9
    rw [hOBl] at this
    rw [this]
    exact congrArg (fun b => Result.ok (Value.string b) (W8.drewN n)) hOBe
  clear HBy8 hOBe hOBl
  go_quiet (fail)
  clear hcv hw1 hw2
  have HWr8 := Lib.hid (heap_alloc_new (W8.drewN nq) (.cells shapeZ 38 (0, 0)))
  have hz78 : W7.heap.size < W8.heap.size := by rw [HSZ8.out]; simp
  have hz58 : W5.heap.size < W8.heap.size := by omega
  have hdz : (W8.drewN nq).heap.size = W8.heap.size := rfl
  have HDZ := Lib.hid hdz
  clear hdz
  go_wp2_with (refine wpList_store_row rfl _ _ 38 rfl W8.heap.size rfl _ rfl _ _ HWr8.out rfl (by kernel_rfl) rfl ?_)
  intro W9 hg9 hgr9 hsz9
  have hcr9 := fun j => cell_of_row W9 _ j _ _ _ hg9
  have hfr9 := fun j => frozen_of_row W9 _ j _ _ hg9
  have hcr9' := fun j => (World.cell?_of_block (a := ⟨W7.heap.size, j, none⟩) ((hgr9.block W7.heap.size (by simp; omega) (by simp; omega)).trans (Below.heap_alloc (W8.drewN nq) _ _ hz78))).trans (hcr8 j)
  have HB9 := Lib.hid (((below_dr HB8.out nq).alloc HB8.out.size _).grown hgr9 (by have := HB8.out.size; simp; omega) (fun k e => by cases e; exact HB8.out.size))
  have HSZ9 := Lib.hid hsz9
  have hne79 : W7.heap.size ≠ W8.heap.size := by omega
  clear hg9 hgr9 hsz9 hcr8 hcr8'
  go_wp2_with fail
  have HBF := Lib.hid ((HB9.out.setCell (p := ⟨W8.heap.size, 5, none⟩) HB8.out.size (Value.bool true)).setCell (p := ⟨W8.heap.size, 2, none⟩) HB8.out.size (Value.string ((⟨#[83]⟩ : ByteArray) ++ PIC)))
  refine (lives_any _ (HE.out.below HBF.out)).mono ?_
  rintro e WF ⟨rfl, hbf⟩
  go_wp2_with fail
  go_ret
  exact ⟨rfl, HBF.out.trans (hbf.mono HBF.out.size)⟩
set_option maxHeartbeats 16000000 in
theorem wordsLiteral_0m (sg : Nat) (a b W P : ByteArray) (w : World) (hE : Env w) (hsg : sg < 256) (hsg2 : (((sg : Int) % 2) == 1) = true) (ha : a.size ≤ maxLen) (hb : b.size ≤ maxLen)
    (hW : dgs 12 a.data.toList = W.data.toList) (hPP : dgs 6 b.data.toList = P.data.toList) (hP : P.toList.isEmpty = true) (hWn : W.toList.isEmpty = false) :
    Calls Tryd.prog 4 #[.agg #[.int .u8 sg, .string a, .string b]] w fun e w' => e = .returned (.bool true) ∧ Below w.heap.size w w' := by
  have HE := Lib.hid hE
  have hWd := WP.dgs_dig 12 a.data.toList
  have hPd := WP.dgs_dig 6 b.data.toList
  have hWl := WP.dgs_len 12 a.data.toList
  have hPl := WP.dgs_len 6 b.data.toList
  rw [hW, ← Lib.size_eq] at hWl
  rw [hPP, ← Lib.size_eq] at hPl
  rw [hW] at hWd
  rw [hPP] at hPd
  have HW := Lib.hid hW
  have HPP := Lib.hid hPP
  have HWd := Lib.hid hWd
  have HPd := Lib.hid hPd
  have hWli : (W.size : Int) ≤ 12 := by omega
  have hPli : (P.size : Int) ≤ 6 := by omega
  have hne : (W ++ P).toList.isEmpty = false := app_ne W P (.inl hWn)
  clear hE hW hPP hWd hPd
  go_enter Tryd.func4, Tryd.ntmps4
  have hbox : ∀ j, (w.alloc (.cells #[.int .u8 sg, .string a, .string b] 33)).cell? ⟨w.heap.size, j, none⟩ = (#[.int .u8 sg, .string a, .string b] : Array Value)[j]? := fun j => World.cell?_alloc_new _ _ _ _
  have HX := Lib.hid hbox
  clear hbox
  go_wp2_with fail
  refine (digits_c _ W 12 _ ha (by omega) HW.out).mono ?_
  rintro e W1 ⟨rfl, hb1⟩
  have hc1 := fun j => (hb1.cell (p := ⟨w.heap.size, j, none⟩) (by simp)).trans (HX.out j)
  have HB1 := Lib.hid (((Below.refl w.heap.size w).alloc (Nat.le_refl _) _).trans (hb1.mono (by simp)))
  have hz1 : w.heap.size < W1.heap.size := by have := hb1.size; simp at this; omega
  have HC1 := Lib.hid hc1
  clear hb1
  go_wp2_with fail
  refine (digits_c _ P 6 _ hb (by omega) HPP.out).mono ?_
  rintro e W2 ⟨rfl, hb2⟩
  have hc2 := fun j => (hb2.cell (p := ⟨w.heap.size, j, none⟩) hz1).trans (HC1.out j)
  have HB2 := Lib.hid (HB1.out.trans (hb2.mono (by omega)))
  have HC2 := Lib.hid hc2
  have hz2 : w.heap.size < W2.heap.size := by have := hb2.size; omega
  clear hb2 hc1 hc2
  go_wp2_with fail
  refine (repeat1_any _ _ _ (by omega)).mono ?_
  rintro e W3 ⟨rfl, hb3⟩
  have hc3 := fun j => (hb3.cell (p := ⟨w.heap.size, j, none⟩) hz2).trans (HC2.out j)
  have HB3 := Lib.hid (HB2.out.trans (hb3.mono (by omega)))
  have HC3 := Lib.hid hc3
  have hz3 : w.heap.size < W3.heap.size := by have := hb3.size; omega
  clear hb3 hc3
  obtain ⟨W4, hW4⟩ : ∃ W4 : World, W4 = W3 := ⟨_, rfl⟩
  subst hW4
  have HB4 := HB3
  have HC4 := HC3
  have hz4 := hz3
  go_wp2_with fail
  have hPe : P.data.toList = [] := by rw [Lib.toList_data] at hP; simpa using hP
  have hWne : W.data.toList ≠ [] := by rw [Lib.toList_data] at hWn; intro e; rw [e] at hWn; cases hWn
  generalize hpic : (⟨Array.replicate W.size 57⟩ : ByteArray) = PIC
  generalize hall : W ++ P = ALL
  have hS : W.data.toList = WP.body W.data.toList P.data.toList := by rw [WP.body, if_pos hPe]
  have hPICd : PIC.data.toList = WP.pic W.data.toList P.data.toList := by
    rw [← hpic, WP.pic, if_pos hPe, ← Lib.size_eq]; simp
  have hA1 : ALL.data.toList = W.data.toList ++ P.data.toList := by rw [← hall, data_app']
  have hAsz : ALL.size = W.size + P.size := by rw [Lib.size_eq, hA1, List.length_append, ← Lib.size_eq, ← Lib.size_eq]
  have hAi : (ALL.size : Int) ≤ 18 := by omega
  have hPpos : 1 ≤ W.size := by rw [Lib.size_eq]; exact List.length_pos_iff.2 hWne
  have hAp : 1 ≤ (ALL.size : Int) := by omega
  have hAp' : 1 ≤ ALL.size := by omega
  have hSz : W.size ≤ 100000 := by have h1 := Lib.size_eq W; have h2 := Lib.size_eq P; omega
  have hlp := lit_plain W PIC W.data.toList P.data.toList ALL.size P.size W4 (HE.out.below HB4.out) hSz hS hPICd HWd.out HPd.out (.inl hWne) (by rw [← Lib.size_eq, ← Lib.size_eq]; omega) (by rw [← Lib.size_eq, ← Lib.size_eq, hAsz]) (Lib.size_eq P).symm
  rw [← hA1] at hlp
  have hPz : PIC.size ≤ 100 := by rw [Lib.size_eq, hPICd]; have := WP.pic_len W.data.toList P.data.toList; have h1 := Lib.size_eq W; have h2 := Lib.size_eq P; omega
  have HS := Lib.hid hS
  have HPI := Lib.hid hPICd
  have HA1 := Lib.hid hA1
  have HAsz := Lib.hid hAsz
  have HPne := Lib.hid (And.intro hPe hWne)
  have HALL := Lib.hid hall
  clear hpic hall hS hPICd hA1 hAsz hPe hWne
  refine hlp.mono ?_
  rintro e W5 ⟨A5, rfl, hA5, hBy5, hb5⟩
  have hc5 := fun j => (hb5.cell (p := ⟨w.heap.size, j, none⟩) hz4).trans (HC4.out j)
  have HB5 := Lib.hid (HB4.out.trans (hb5.mono (by omega)))
  have HC5 := Lib.hid hc5
  have hz5 : w.heap.size < W5.heap.size := by have := hb5.size; omega
  have HBy5 := Lib.hid hBy5
  clear hb5 hc5 hBy5 hlp
  have HWr5 := Lib.hid (heap_alloc_new W5 (.cells fieldZ 41 (0, 0)))
  go_wp2_with (refine wpList_store_row rfl _ _ 41 rfl W5.heap.size rfl _ rfl _ _ HWr5.out rfl (by kernel_rfl) rfl ?_)
  intro W6 hg6 hgr6 hsz6
  have hcr6 := fun j => cell_of_row W6 _ j _ _ _ hg6
  have HB6 := Lib.hid (below_store HB5.out HB5.out.size hgr6)
  have HG6 := Lib.hid hg6
  have hc6 := fun j => (World.cell?_of_block (a := ⟨w.heap.size, j, none⟩) ((hgr6.block w.heap.size (by simp; omega) (by simp; omega)).trans (Below.heap_alloc _ _ _ hz5))).trans (HC5.out j)
  have hz6 : W5.heap.size < W6.heap.size := by rw [hsz6]; simp
  have HBy6 := Lib.hid ((HBy5.out.alloc (.cells fieldZ 41 (0, 0))).same (hgr6.block A5 (by have := HBy5.out.lt; simp; omega) (by have := HBy5.out.lt; simp; omega)))
  have HC6 := Lib.hid hc6
  clear hg6 hgr6 hsz6
  have HL := Lib.hid (Lib.size_eq ALL)
  go_upto_region 12 with fail
  rw [HALL.out]
  go_wp2_with (refine wpList_str_n rfl _ 39 9 5 rfl A5 ALL.size ALL.size ALL rfl Tryd.underlying39 Tryd.underlying5 Tryd.underlying9 HL.out.symm _ HBy6.out ?_)
  go_wp2_with fail
  generalize hs2 : (⟨#[45]⟩ : ByteArray) ++ W = S2
  have hS2 : S2.data.toList = 45 :: WP.body W.data.toList P.data.toList := by rw [← hs2, data_app', WP.body, if_pos HPne.out.1]; rfl
  have hS2z : S2.size ≤ 100000 := by have h1 := Lib.size_eq W; have h2 := Lib.size_eq P; rw [Lib.size_eq, hS2, WP.body, if_pos HPne.out.1]; simp; omega
  obtain ⟨OB, hOB⟩ : ∃ OB : ByteArray, overpunch ((45 : UInt8) == 45) (W.data.toList ++ P.data.toList) = OB.data.toList := ⟨⟨_⟩, rfl⟩
  have hls := lit_signed 45 (.inr rfl) S2 (⟨#[83]⟩ ++ PIC) W.data.toList P.data.toList ALL.size P.size W6 (HE.out.below HB6.out) hS2z hS2 (by rw [data_app', HPI.out]; rfl) HWd.out HPd.out (.inl HPne.out.2) (by rw [← Lib.size_eq, ← Lib.size_eq]; omega) (by rw [← Lib.size_eq, ← Lib.size_eq, HAsz.out]) (Lib.size_eq P).symm
  rw [hOB] at hls
  rw [← HA1.out] at hOB
  have HOB := Lib.hid hOB
  clear hs2 hS2 hS2z hOB
  refine hls.mono ?_
  rintro e W7 ⟨A7, rfl, hA7, hBy7, hb7⟩
  have HB7 := Lib.hid (HB6.out.trans (hb7.mono HB6.out.size))
  have hc7 := fun j => (hb7.cell (p := ⟨w.heap.size, j, none⟩) (by show w.heap.size < _; omega)).trans (HC6.out j)
  have hz7 : W5.heap.size < W7.heap.size := by have := hb7.size; omega
  have HG7 := Lib.hid ((hb7.block W5.heap.size hz6).trans HG6.out)
  have HC7 := Lib.hid hc7
  have HBy7 := Lib.hid hBy7
  clear hb7 hc7 hBy7 hls hcr6 hc6
  have HWr7 := Lib.hid (heap_alloc_new W7 (.cells fieldZ 41 (0, 0)))
  go_wp2_with (refine wpList_store_row rfl _ _ 41 rfl W7.heap.size rfl _ rfl _ _ HWr7.out rfl (by kernel_rfl) rfl ?_)
  intro W8 hg8 hgr8 hsz8
  have hcr8 := fun j => cell_of_row W8 _ j _ _ _ hg8
  have HB8 := Lib.hid (below_store HB7.out HB7.out.size hgr8)
  have HG8 := Lib.hid ((hgr8.block W5.heap.size (by simp; omega) (by simp; omega)).trans ((Below.heap_alloc _ _ _ hz7).trans HG7.out))
  have hcr8' := fun j => cell_of_row W8 _ j _ _ _ HG8.out
  have HBy8 := Lib.hid ((HBy7.out.alloc (.cells fieldZ 41 (0, 0))).same (hgr8.block A7 (by have := HBy7.out.lt; simp; omega) (by have := HBy7.out.lt; simp; omega)))
  have HSZ8 := Lib.hid hsz8
  clear hg8 hgr8 hsz8
  have hlast : ALL.size - 1 < ALL.size := by omega
  have hlast2 : ALL.size - 1 < ALL.data.toList.length := by rw [← Lib.size_eq]; exact hlast
  have hDg : isDigs ALL.data.toList = true := by
    rw [HA1.out, isDigs, allDig_app2, HWd.out, HPd.out]
    have : W.data.toList ++ P.data.toList ≠ [] := fun e => HPne.out.2 (List.append_eq_nil_iff.1 e).1
    simpa using this
  have hD := isDigs_at _ _ hlast2 hDg
  have hD1 : 48 ≤ ((ALL[ALL.size - 1]'hlast).toNat : Int) := hD.1
  have hD2 : ((ALL[ALL.size - 1]'hlast).toNat : Int) ≤ 57 := hD.2
  clear hD hDg
  have hle : (ALL.size : Int) - 1 ≤ (ALL.size : Int) := by omega
  have hlt1 : (ALL.size : Int) - 1 < (ALL.size : Int) := by omega
  have hge0 : 0 ≤ (ALL.size : Int) - 1 := by omega
  have hw1 : IntKind.u8.wrap (((ALL[ALL.size - 1]'hlast).toNat : Int) - 48) = ((ALL[ALL.size - 1]'hlast).toNat : Int) - 48 := IntWalk.u8_in _ (by omega)
  have hw2 : IntKind.u8.wrap (((ALL[ALL.size - 1]'hlast).toNat : Int) - 48 + 1) = ((ALL[ALL.size - 1]'hlast).toNat : Int) - 48 + 1 := IntWalk.u8_in _ (by omega)
  have hx1 : 0 ≤ ((ALL[ALL.size - 1]'hlast).toNat : Int) - 48 + 1 := by omega
  have hx2 : ((ALL[ALL.size - 1]'hlast).toNat : Int) - 48 + 1 ≤ 10 := by omega
  have hx3 : ((ALL[ALL.size - 1]'hlast).toNat : Int) - 48 ≤ ((ALL[ALL.size - 1]'hlast).toNat : Int) - 48 + 1 := by omega
  have hx4 : ¬ 9223372036854775807 < ALL.size - 1 + ((((ALL[ALL.size - 1]'hlast).toNat : Int) - 48 + 1).toNat - (((ALL[ALL.size - 1]'hlast).toNat : Int) - 48).toNat) := by omega
  go_upto_region 21 with fail
  have hOBe := over_str ALL OB minusT true hlast (by rfl) hD1 hD2 HOB.out
  have HBy8 := HBy8.out
  have hOBl : OB.data.toList.length = ALL.size := by rw [← HOB.out, overpunch_len _ _ (by rw [← Lib.size_eq]; omega), ← Lib.size_eq]
  have hcv : ∀ n, (convert 39 9 (.slice (some ⟨A7, 0, none⟩) ALL.size ALL.size)).run Tryd.prog (W8.drewN n) = .ok (.string (ALL.extract 0 (ALL.size - 1) ++ (⟨#[125, 74, 75, 76, 77, 78, 79, 80, 81, 82]⟩ : ByteArray).extract (((ALL[ALL.size - 1]'hlast).toNat : Int) - 48).toNat (((ALL[ALL.size - 1]'hlast).toNat : Int) - 48 + 1).toNat)) (W8.drewN n) := fun n => by
    have := (BytesAt.same (w' := W8.drewN n) HBy8 rfl).str (P := Tryd.prog) 39 9 5 ALL.size Tryd.underlying39 Tryd.underlying5 Tryd.underlying9
    rw [hOBl] at this
    rw [this]
    exact congrArg (fun b => Result.ok (Value.string b) (W8.drewN n)) hOBe
  clear HBy8 hOBe hOBl
  go_quiet (fail)
  clear hcv hw1 hw2
  have HWr8 := Lib.hid (heap_alloc_new (W8.drewN nq) (.cells shapeZ 38 (0, 0)))
  have hz78 : W7.heap.size < W8.heap.size := by rw [HSZ8.out]; simp
  have hz58 : W5.heap.size < W8.heap.size := by omega
  have hdz : (W8.drewN nq).heap.size = W8.heap.size := rfl
  have HDZ := Lib.hid hdz
  clear hdz
  go_wp2_with (refine wpList_store_row rfl _ _ 38 rfl W8.heap.size rfl _ rfl _ _ HWr8.out rfl (by kernel_rfl) rfl ?_)
  intro W9 hg9 hgr9 hsz9
  have hcr9 := fun j => cell_of_row W9 _ j _ _ _ hg9
  have hfr9 := fun j => frozen_of_row W9 _ j _ _ hg9
  have hcr9' := fun j => (World.cell?_of_block (a := ⟨W7.heap.size, j, none⟩) ((hgr9.block W7.heap.size (by simp; omega) (by simp; omega)).trans (Below.heap_alloc (W8.drewN nq) _ _ hz78))).trans (hcr8 j)
  have HB9 := Lib.hid (((below_dr HB8.out nq).alloc HB8.out.size _).grown hgr9 (by have := HB8.out.size; simp; omega) (fun k e => by cases e; exact HB8.out.size))
  have HSZ9 := Lib.hid hsz9
  have hne79 : W7.heap.size ≠ W8.heap.size := by omega
  clear hg9 hgr9 hsz9 hcr8 hcr8'
  go_wp2_with fail
  have HBF := Lib.hid ((HB9.out.setCell (p := ⟨W8.heap.size, 5, none⟩) HB8.out.size (Value.bool true)).setCell (p := ⟨W8.heap.size, 2, none⟩) HB8.out.size (Value.string ((⟨#[83]⟩ : ByteArray) ++ PIC)))
  refine (lives_any _ (HE.out.below HBF.out)).mono ?_
  rintro e WF ⟨rfl, hbf⟩
  go_wp2_with fail
  go_ret
  exact ⟨rfl, HBF.out.trans (hbf.mono HBF.out.size)⟩

set_option maxHeartbeats 4000000 in
theorem wordsLiteral_none (sg : Nat) (a b W P : ByteArray) (w : World) (hE : Env w) (ha : a.size ≤ maxLen) (hb : b.size ≤ maxLen)
    (hW : dgs 12 a.data.toList = W.data.toList) (hPP : dgs 6 b.data.toList = P.data.toList) (hne : (W ++ P).toList.isEmpty = true) (hz : (W.size : Int) + (P.size : Int) ≤ 100) :
    Calls Tryd.prog 4 #[.agg #[.int .u8 sg, .string a, .string b]] w fun e w' => e = .returned (.bool true) ∧ Below w.heap.size w w' := by
  have HE := Lib.hid hE
  have HW := Lib.hid hW
  have HPP := Lib.hid hPP
  have hzn : W.size + P.size ≤ 100 := by omega
  clear hE hW hPP
  have HX : Hid (∀ j, (w.alloc (.cells #[.int .u8 sg, .string a, .string b] 33)).cell? ⟨w.heap.size, j, none⟩ = (#[.int .u8 sg, .string a, .string b] : Array Value)[j]?) := fun j => World.cell?_alloc_new _ _ _ _
  go_enter Tryd.func4, Tryd.ntmps4
  go_wp2_with fail
  refine (digits_c _ W 12 _ ha (by omega) HW.out).mono ?_
  rintro e W1 ⟨rfl, hb1⟩
  have hc1 := fun j => (hb1.cell (p := ⟨w.heap.size, j, none⟩) (by simp)).trans (HX.out j)
  have HB1 := Lib.hid (((Below.refl w.heap.size w).alloc (Nat.le_refl _) _).trans (hb1.mono (by simp)))
  clear hb1
  go_wp2_with fail
  refine (digits_c _ P 6 _ hb (by omega) HPP.out).mono ?_
  rintro e W2 ⟨rfl, hb2⟩
  have HB2 := Lib.hid (HB1.out.trans (hb2.mono HB1.out.size))
  clear hb2 hc1
  go_wp2_with fail
  refine (lives_any _ (HE.out.below HB2.out)).mono ?_
  rintro e WF ⟨rfl, hbf⟩
  go_wp2_with fail
  go_ret
  exact ⟨rfl, HB2.out.trans (hbf.mono HB2.out.size)⟩

theorem wordsLiteral_any (sg : Nat) (a b : ByteArray) (w : World) (hE : Env w) (hsg : sg < 256) (ha : a.size ≤ maxLen) (hb : b.size ≤ maxLen) :
    Calls Tryd.prog 4 #[.agg #[.int .u8 sg, .string a, .string b]] w fun e w' => e = .returned (.bool true) ∧ Below w.heap.size w w' := by
  obtain ⟨W, hW⟩ : ∃ W : ByteArray, dgs 12 a.data.toList = W.data.toList := ⟨⟨_⟩, rfl⟩
  obtain ⟨P, hP⟩ : ∃ P : ByteArray, dgs 6 b.data.toList = P.data.toList := ⟨⟨_⟩, rfl⟩
  have hWl := WP.dgs_len 12 a.data.toList
  have hPl := WP.dgs_len 6 b.data.toList
  rw [hW, ← Lib.size_eq] at hWl
  rw [hP, ← Lib.size_eq] at hPl
  by_cases hp : P.toList.isEmpty = true
  · by_cases hw : W.toList.isEmpty = true
    · refine wordsLiteral_none sg a b W P w hE ha hb hW hP ?_ (by omega)
      simp only [Lib.toList_data, data_app'] at *
      have h1 : W.data.toList = [] := by simpa using hw
      have h2 : P.data.toList = [] := by simpa using hp
      rw [h1, h2]; rfl
    · have hw : W.toList.isEmpty = false := by simpa using hw
      cases h : (((sg : Int) % 2) == 1)
      · exact wordsLiteral_0p sg a b W P w hE hsg h ha hb hW hP hp hw
      · exact wordsLiteral_0m sg a b W P w hE hsg h ha hb hW hP hp hw
  · have hp : P.toList.isEmpty = false := by simpa using hp
    cases h : (((sg : Int) % 2) == 1)
    · exact wordsLiteral_1p sg a b W P w hE hsg h ha hb hW hP hp
    · exact wordsLiteral_1m sg a b W P w hE hsg h ha hb hW hP hp
end Go.Proofs.YtphofgokcfdobaaDoor
