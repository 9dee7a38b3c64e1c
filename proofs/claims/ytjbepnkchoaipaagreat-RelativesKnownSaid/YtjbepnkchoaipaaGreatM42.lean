import Derived.Test.YtjbepnkchoaipaaGreatM41
import Derived.Test.YtjbepnkchoaipaaGreatM38
import Derived.Lib.SlBytesConst
set_option linter.unusedVariables false
set_option linter.unusedSimpArgs false
/- Law 31: the examples of the chapter: lives returns true. -/
namespace Go.Proofs.YtjbepnkchoaipaaGreat
open Go.RowKit Go.Lib Go.Maps Go.WideMaps Go.Sort
set_option maxRecDepth 100000
namespace R
def lv0 : M := ⟨true, 3, false, [], 0, 0, 0⟩
def lv1 : M := (lv0.open 2).1
theorem lv1_e : lv0.open 2 = (lv1, [48, 48]) := by kernel_rfl
def lv2 : M := (lv1.write 5 [99]).1
theorem lv2_e : lv1.write 5 [99] = (lv2, [48, 48]) := by kernel_rfl
def lv3 : M := (lv2.write 2 [97, 98]).1
theorem lv3_e : lv2.write 2 [97, 98] = (lv3, [48, 48]) := by kernel_rfl
def lv4 : M := (lv3.close).1
theorem lv4_e : lv3.close = (lv4, [48, 48]) := by kernel_rfl
def lv5 : M := (lv4.open 3).1
theorem lv5_e : lv4.open 3 = (lv5, [48, 48]) := by kernel_rfl
def lv6 : M := (lv5.nextR).1
theorem lv6_e : lv5.nextR = (lv6, some (2, [97, 98]), [48, 48]) := by kernel_rfl
def lv7 : M := (lv6.nextR).1
theorem lv7_e : lv6.nextR = (lv7, some (5, [99]), [48, 48]) := by kernel_rfl
def lv8 : M := (lv7.nextR).1
theorem lv8_e : lv7.nextR = (lv8, none, [49, 48]) := by kernel_rfl
def lv9 : M := (lv8.nextR).1
theorem lv9_e : lv8.nextR = (lv9, none, [52, 54]) := by kernel_rfl
def lv10 : M := (lv9.readR 2).1
theorem lv10_e : lv9.readR 2 = (lv10, some [97, 98], [48, 48]) := by kernel_rfl
def lv11 : M := (lv10.rewrite 0 [120, 121, 122]).1
theorem lv11_e : lv10.rewrite 0 [120, 121, 122] = (lv11, [48, 48]) := by kernel_rfl
def lv12 : M := (lv11.rewrite 0 [120]).1
theorem lv12_e : lv11.rewrite 0 [120] = (lv12, [52, 51]) := by kernel_rfl
def lv13 : M := (lv12.write 5 [100]).1
theorem lv13_e : lv12.write 5 [100] = (lv13, [50, 50]) := by kernel_rfl
def lv14 : M := (lv13.write 65537 [100]).1
theorem lv14_e : lv13.write 65537 [100] = (lv14, [50, 52]) := by kernel_rfl
def lv15 : M := (lv14.write 1 [97, 98, 99, 100]).1
theorem lv15_e : lv14.write 1 [97, 98, 99, 100] = (lv15, [52, 52]) := by kernel_rfl
def lv16 : M := (lv15.write 1 [100]).1
theorem lv16_e : lv15.write 1 [100] = (lv16, [48, 48]) := by kernel_rfl
def lv17 : M := (lv16.start 3 5).1
theorem lv17_e : lv16.start 3 5 = (lv17, [48, 48]) := by kernel_rfl
def lv18 : M := (lv17.nextR).1
theorem lv18_e : lv17.nextR = (lv18, some (2, [120, 121, 122]), [48, 48]) := by kernel_rfl
def lv19 : M := (lv18.start 1 5).1
theorem lv19_e : lv18.start 1 5 = (lv19, [50, 51]) := by kernel_rfl
def lv20 : M := (lv19.delete 5).1
theorem lv20_e : lv19.delete 5 = (lv20, [48, 48]) := by kernel_rfl
def lv21 : M := (lv20.delete 5).1
theorem lv21_e : lv20.delete 5 = (lv21, [50, 51]) := by kernel_rfl
def lv22 : M := (lv21.append [101]).1
theorem lv22_e : lv21.append [101] = (lv22, 0, [52, 56]) := by kernel_rfl
def lv23 : M := (lv22.open 1).1
theorem lv23_e : lv22.open 1 = (lv23, [52, 49]) := by kernel_rfl
def lv24 : M := (lv23.close).1
theorem lv24_e : lv23.close = (lv24, [48, 48]) := by kernel_rfl
def lv25 : M := (lv24.close).1
theorem lv25_e : lv24.close = (lv25, [52, 50]) := by kernel_rfl
def lv26 : M := (lv25.nextR).1
theorem lv26_e : lv25.nextR = (lv26, none, [52, 50]) := by kernel_rfl
end R
set_option maxHeartbeats 4000000 in
theorem lives_any (w : World) :
    Calls Tryz.prog 7 #[] w fun e w' => e = .returned (.bool true) ∧ Below w.heap.size w w' := by
  have kc := fun (w : World) (C : Array Value) (n c : Nat) => Lib.run_convert_bytes_const (P := Tryz.prog) w 37 5 C n c Tryz.underlying37 Tryz.underlying5
  go_enter Tryz.func7, Tryz.ntmps7
  go_wp2_with fail
  refine (at_new w _ (Below.refl _ _)).mono ?_
  rintro e W ⟨p, rfl, h⟩
  have H := Lib.hid h
  clear h
  go_wp2_with fail
  refine (k_new H.out [70] true 3 (by decide) (by decide) (by decide) (by decide) (by decide)).mono ?_
  rintro e W0 ⟨pf, rfl, h⟩
  have H0 := Lib.hid (kx_of h)
  clear h H
  go_wp2_with fail
  refine ((x_open H0.out (by decide) 2) R.lv1_e).mono ?_
  rintro e W1 ⟨rfl, h⟩
  have H1 := Lib.hid h
  clear h H0
  go_wp2_with fail
  refine ((x_write H1.out (by decide) 5 [99] (by decide) #[.int .u8 99] rfl) R.lv2_e).mono ?_
  rintro e W2 ⟨rfl, h⟩
  have H2 := Lib.hid h
  clear h H1
  go_wp2_with fail
  refine ((x_write H2.out (by decide) 2 [97, 98] (by decide) #[.int .u8 97, .int .u8 98] rfl) R.lv3_e).mono ?_
  rintro e W3 ⟨rfl, h⟩
  have H3 := Lib.hid h
  clear h H2
  go_wp2_with fail
  refine ((x_close H3.out) R.lv4_e).mono ?_
  rintro e W4 ⟨rfl, h⟩
  have H4 := Lib.hid h
  clear h H3
  go_wp2_with fail
  refine ((x_open H4.out (by decide) 3) R.lv5_e).mono ?_
  rintro e W5 ⟨rfl, h⟩
  have H5 := Lib.hid h
  clear h H4
  go_wp2_with fail
  refine ((x_nextS H5.out (by decide)) R.lv6_e).mono ?_
  rintro e W6 ⟨A6, c6, rfl, hs, hg, h⟩
  have S6 := Lib.hid hs
  clear hs
  have H6 := Lib.hid h
  clear h H5
  clear hg
  go_wp2_with fail
  refine ((x_nextS H6.out (by decide)) R.lv7_e).mono ?_
  rintro e W7 ⟨A7, c7, rfl, hs, hg, h⟩
  have S7 := Lib.hid hs
  clear hs
  have H7 := Lib.hid h
  clear h H6
  have S6 := Lib.hid (sl_pf S6.out hg)
  clear hg
  go_wp2_with fail
  refine ((x_nextN H7.out (by decide)) R.lv8_e).mono ?_
  rintro e W8 ⟨v8, rfl, _, hg, h⟩
  have H8 := Lib.hid h
  clear h H7
  have S6 := Lib.hid (sl_pf S6.out hg)
  have S7 := Lib.hid (sl_pf S7.out hg)
  clear hg
  go_wp2_with fail
  refine ((x_nextN H8.out (by decide)) R.lv9_e).mono ?_
  rintro e W9 ⟨v9, rfl, _, hg, h⟩
  have H9 := Lib.hid h
  clear h H8
  have S6 := Lib.hid (sl_pf S6.out hg)
  have S7 := Lib.hid (sl_pf S7.out hg)
  have cv6 := run_str_by (c := c6) S6.out
  have cv7 := run_str_by (c := c7) S7.out
  simp only [List.length_cons, List.length_nil, Nat.zero_add, Nat.reduceAdd] at cv6 cv7
  clear hg
  go_wp2_with fail
  refine ((x_read H9.out 2 (by decide)) R.lv10_e).mono ?_
  rintro e W10 ⟨A10, c10, rfl, hs, h⟩
  have H10 := Lib.hid h
  have cv10 := run_str_by (c := c10) hs
  simp only [List.length_cons, List.length_nil, Nat.zero_add, Nat.reduceAdd] at cv10
  clear h H9 hs
  go_wp2_with fail
  refine ((x_rewrite H10.out (by decide) 0 [120, 121, 122] (by decide) #[.int .u8 120, .int .u8 121, .int .u8 122] rfl) R.lv11_e).mono ?_
  rintro e W11 ⟨rfl, h⟩
  have H11 := Lib.hid h
  clear h H10
  go_wp2_with fail
  refine ((x_rewrite H11.out (by decide) 0 [120] (by decide) #[.int .u8 120] rfl) R.lv12_e).mono ?_
  rintro e W12 ⟨rfl, h⟩
  have H12 := Lib.hid h
  clear h H11
  go_wp2_with fail
  refine ((x_write H12.out (by decide) 5 [100] (by decide) #[.int .u8 100] rfl) R.lv13_e).mono ?_
  rintro e W13 ⟨rfl, h⟩
  have H13 := Lib.hid h
  clear h H12
  go_wp2_with fail
  refine ((x_write H13.out (by decide) 65537 [100] (by decide) #[.int .u8 100] rfl) R.lv14_e).mono ?_
  rintro e W14 ⟨rfl, h⟩
  have H14 := Lib.hid h
  clear h H13
  go_wp2_with fail
  refine ((x_write H14.out (by decide) 1 [97, 98, 99, 100] (by decide) #[.int .u8 97, .int .u8 98, .int .u8 99, .int .u8 100] rfl) R.lv15_e).mono ?_
  rintro e W15 ⟨rfl, h⟩
  have H15 := Lib.hid h
  clear h H14
  go_wp2_with fail
  refine ((x_write H15.out (by decide) 1 [100] (by decide) #[.int .u8 100] rfl) R.lv16_e).mono ?_
  rintro e W16 ⟨rfl, h⟩
  have H16 := Lib.hid h
  clear h H15
  go_wp2_with fail
  refine ((x_start H16.out (by decide) 3 5 (by decide)) R.lv17_e).mono ?_
  rintro e W17 ⟨rfl, h⟩
  have H17 := Lib.hid h
  clear h H16
  go_wp2_with fail
  refine ((x_nextS H17.out (by decide)) R.lv18_e).mono ?_
  rintro e W18 ⟨A18, c18, rfl, hs, hg, h⟩
  have S18 := Lib.hid hs
  clear hs
  have H18 := Lib.hid h
  clear h H17
  clear hg
  clear S18
  go_wp2_with fail
  refine ((x_start H18.out (by decide) 1 5 (by decide)) R.lv19_e).mono ?_
  rintro e W19 ⟨rfl, h⟩
  have H19 := Lib.hid h
  clear h H18
  go_wp2_with fail
  refine ((x_delete H19.out (by decide) 5) R.lv20_e).mono ?_
  rintro e W20 ⟨rfl, h⟩
  have H20 := Lib.hid h
  clear h H19
  go_wp2_with fail
  refine ((x_delete H20.out (by decide) 5) R.lv21_e).mono ?_
  rintro e W21 ⟨rfl, h⟩
  have H21 := Lib.hid h
  clear h H20
  go_wp2_with fail
  refine ((x_append H21.out (by decide) [101] (by decide) #[.int .u8 101] rfl) R.lv22_e).mono ?_
  rintro e W22 ⟨rfl, h⟩
  have H22 := Lib.hid h
  clear h H21
  go_wp2_with fail
  refine ((x_open H22.out (by decide) 1) R.lv23_e).mono ?_
  rintro e W23 ⟨rfl, h⟩
  have H23 := Lib.hid h
  clear h H22
  go_wp2_with fail
  refine ((x_close H23.out) R.lv24_e).mono ?_
  rintro e W24 ⟨rfl, h⟩
  have H24 := Lib.hid h
  clear h H23
  go_wp2_with fail
  refine ((x_close H24.out) R.lv25_e).mono ?_
  rintro e W25 ⟨rfl, h⟩
  have H25 := Lib.hid h
  clear h H24
  go_wp2_with fail
  refine ((x_nextN H25.out (by decide)) R.lv26_e).mono ?_
  rintro e W26 ⟨v26, rfl, _, hg, h⟩
  have H26 := Lib.hid h
  clear h H25
  clear hg
  go_wp2
  go_ret
  exact ⟨rfl, H26.out.bel⟩
end Go.Proofs.YtjbepnkchoaipaaGreat
