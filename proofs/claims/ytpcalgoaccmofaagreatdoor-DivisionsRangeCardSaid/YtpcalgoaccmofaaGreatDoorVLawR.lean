/- DivisionsRange: a round of the law's own count. Printed by gen_vlaw4.py. -/
import Derived.Test.YtpcalgoaccmofaaGreatDoorVLaw9
import Derived.Test.YtpcalgoaccmofaaGreatDoorVLawP
set_option linter.unusedVariables false
set_option linter.unusedSimpArgs false
namespace Go.Proofs.YtpcalgoaccmofaaGreatDoor
open Go.RowKit Go.Lib
set_option maxRecDepth 100000
def blkOf (n : Nat) : Code → Option Code
  | .loop c => blkOf n c
  | .seq a b => match blkOf n a with
    | some c => some c
    | none => blkOf n b
  | .block i c => if i = n then some c else blkOf n c
  | .scope c => blkOf n c
  | .cond _ a b => match blkOf n a with
    | some c => some c
    | none => blkOf n b
  | _ => none
noncomputable def lwBlk3 : Code := (Tryz.f3.body.bind (blkOf 3)).getD .skip
set_option maxHeartbeats 2000000 in
theorem lawRoundS {W0 : World} {pb g len c a b m k : Nat} {xs : List (VB × VB)} {n s : VB} {x xp : VB × VB} {nb sb : ByteArray} {t : Nat × Nat × Nat} {Q : Exit → Act → World → Prop}
    (HX : Hid (xs[k]? = some x)) (HXP : Hid (0 < k → xs[k - 1]? = some xp))
    (HC : Hid (∀ w', Below W0.heap.size W0 w' → w'.cell? ⟨g, k * 5, none⟩ = some (.string ⟨x.2.toArray⟩) ∧ w'.cell? ⟨g, k * 5 + 1, none⟩ = some (.string ⟨x.1.toArray⟩) ∧ w'.cell? ⟨g, k * 5 + 2, none⟩ = some (.slice none 0 0) ∧ w'.cell? ⟨g, k * 5 + 3, none⟩ = some (.int .i64 0) ∧ w'.cell? ⟨g, k * 5 + 4, none⟩ = some (.int .i64 0)))
    (HCP : Hid (0 < k → ∀ w', Below W0.heap.size W0 w' → w'.cell? ⟨g, (k - 1) * 5, none⟩ = some (.string ⟨xp.2.toArray⟩)))
    (HP : Hid (∀ w', Below W0.heap.size W0 w' → w'.cell? ⟨pb, 8, none⟩ = some (.slice (some ⟨g, 0, none⟩) len c)))
    (HE : Hid (∀ y : VB, ((⟨y.toArray⟩ : ByteArray).toList == nb.toList) = decide (y = n)))
    (HES : Hid (∀ y : VB, ((⟨y.toArray⟩ : ByteArray).toList == sb.toList) = decide (y = s))) (HS : Hid (s ≠ [])) (q1 : sb.toList ≠ []) (q2 : sb.toList.isEmpty = false)
    (hkl : (k : Int) < (len : Nat)) (HB : Hid (k ≤ 1000 ∧ m ≤ 3000)) (HT : Hid (lw xs n s (a, b, m) k x = t))
    (u0 u1 u2 u3 u4 u5 u7 u14 u15 u16 u17 u18 u19 u20 u21 u22 u23 u24 u25 u26 u27 u28 u29 u30 u31 u32 u33 u34 u35 u36 u37 u38 u39 u40 u41 u42 u43 u44 u45 u46 u47 u48 u49 u50 u51 u52 u53 u54 u55 u56 u57 u58 u59 u60 u61 u62 u63 u64 u65 u66 u67 u68 u69 u70 u71 u72 u73 u74 u75 u76 u77 u78 u79 u80 u81 u82 u83 u84 u85 u86 u87 u88 u89 u90 u91 u92 u93 u94 u95 u96 u97 u98 u99 u100 u101 u102 u103 u104 u105 u106 u107 u108 u109 u110 u111 u112 u113 u114 u115 u116 u117 u118 u119 u120 u121 u122 u123 u124 u125 u126 u127 u128 u129 u130 u131 u132 u133 u134 u135 u136 u137 u138 u139 u140 u141 u142 u143 u144 u145 u146 u147 u148 u149 u150 u151 u152 u153 u154 u155 u156 u157 u158 u159 u160 u161 u162 u163 u164 u165 : Value) (h : ∀ (d14 d76 d77 d78 d79 d80 d81 d82 d83 d84 d85 d86 d87 d88 d89 d90 d91 d92 d93 d94 d95 d96 d97 d98 d99 d100 d101 d102 d103 d104 d105 d106 d107 d108 d109 d110 d111 d112 d113 d114 d115 d116 d117 d118 d119 d120 d121 d122 d123 : Value) W', Below W0.heap.size W0 W' → Q .normal (⟨#[u0, u1, u2, u3, u4, u5, .pointer (some ⟨pb, 0, none⟩), u7, .string nb, .string sb, .int .i64 (t.2.2 : Nat), .int .i64 (t.1 : Nat), .int .i64 (t.2.1 : Nat), .int .i64 (k : Nat), d14, u15, u16, u17, u18, u19, u20, u21, u22, u23, u24, u25, u26, u27, u28, u29, u30, u31, u32, u33, u34, u35, u36, u37, u38, u39, u40, u41, u42, u43, u44, u45, u46, u47, u48, u49, u50, u51, u52, u53, u54, u55, u56, u57, u58, u59, u60, u61, u62, u63, u64, u65, u66, u67, u68, u69, u70, u71, u72, u73, u74, u75, d76, d77, d78, d79, d80, d81, d82, d83, d84, d85, d86, d87, d88, d89, d90, d91, d92, d93, d94, d95, d96, d97, d98, d99, d100, d101, d102, d103, d104, d105, d106, d107, d108, d109, d110, d111, d112, d113, d114, d115, d116, d117, d118, d119, d120, d121, d122, d123, u124, u125, u126, u127, u128, u129, u130, u131, u132, u133, u134, u135, u136, u137, u138, u139, u140, u141, u142, u143, u144, u145, u146, u147, u148, u149, u150, u151, u152, u153, u154, u155, u156, u157, u158, u159, u160, u161, u162, u163, u164, u165], []⟩ : Act) W') : Code.wp Tryz.prog lwBlk3 Q (⟨#[u0, u1, u2, u3, u4, u5, .pointer (some ⟨pb, 0, none⟩), u7, .string nb, .string sb, .int .i64 (m : Nat), .int .i64 (a : Nat), .int .i64 (b : Nat), .int .i64 (k : Nat), u14, u15, u16, u17, u18, u19, u20, u21, u22, u23, u24, u25, u26, u27, u28, u29, u30, u31, u32, u33, u34, u35, u36, u37, u38, u39, u40, u41, u42, u43, u44, u45, u46, u47, u48, u49, u50, u51, u52, u53, u54, u55, u56, u57, u58, u59, u60, u61, u62, u63, u64, u65, u66, u67, u68, u69, u70, u71, u72, u73, u74, u75, u76, u77, u78, u79, u80, u81, u82, u83, u84, u85, u86, u87, u88, u89, u90, u91, u92, u93, u94, u95, u96, u97, u98, u99, u100, u101, u102, u103, u104, u105, u106, u107, u108, u109, u110, u111, u112, u113, u114, u115, u116, u117, u118, u119, u120, u121, u122, u123, u124, u125, u126, u127, u128, u129, u130, u131, u132, u133, u134, u135, u136, u137, u138, u139, u140, u141, u142, u143, u144, u145, u146, u147, u148, u149, u150, u151, u152, u153, u154, u155, u156, u157, u158, u159, u160, u161, u162, u163, u164, u165], []⟩ : Act) W0 := by
  have HQ := Lib.hid h
  clear h
  conv => arg 2; whnf
  obtain ⟨c0, c1, c2, c3, c4⟩ := HC.out W0 (Below.refl _ _)
  have hp := HP.out W0 (Below.refl _ _)
  have HZr := Lib.hid (heap_alloc_new W0 pgZ)
  obtain ⟨x1, x2⟩ := x
  simp only at c0 c1
  go_wp2_with (refine wpList_store_row rfl _ _ 36 rfl W0.heap.size rfl [.string ⟨x2.toArray⟩, .string ⟨x1.toArray⟩, .slice none 0 0, .int .i64 0, .int .i64 0] rfl _ _ HZr.out rfl (by kernel_rfl) rfl ?_)
  intro W3 hrow hg3 hsz
  have HB3 := Lib.hid (((Below.refl W0.heap.size W0).alloc (Nat.le_refl _) pgZ).grown hg3 (by simp) (fun k e => by injection e with e; omega))
  have hk0 := cell_of_row W3 W0.heap.size 0 _ _ _ hrow
  have hk1 := cell_of_row W3 W0.heap.size 1 _ _ _ hrow
  have HK0 : Hid (W3.cell? ⟨W0.heap.size, 0, none⟩ = some (.string ⟨x2.toArray⟩)) := Lib.hid hk0
  have HK1 : Hid (W3.cell? ⟨W0.heap.size, 1, none⟩ = some (.string ⟨x1.toArray⟩)) := Lib.hid hk1
  have HP3 := Lib.hid (HP.out W3 HB3.out)
  have HCP3 := Lib.hid (fun h0 => HCP.out h0 W3 HB3.out)
  clear hrow hg3 hsz HZr c0 c1 c2 c3 c4 hp hk0 hk1 HC HCP HP
  generalize W0.heap.size = bx at HK0 HK1 ⊢
  have HE1 := Lib.hid (HE.out x1)
  have HE2 := Lib.hid (HE.out x2)
  have HE3 := Lib.hid (HES.out x2)
  generalize (⟨x1.toArray⟩ : ByteArray) = X1 at HK1 HE1
  generalize (⟨x2.toArray⟩ : ByteArray) = X2 at HK0 HE2 HE3
  have HWM := Lib.hid (vw64i m (by have := HB.out; omega))
  have HWM2 := Lib.hid (vw64j m (by have := HB.out; omega))
  by_cases e1 : x1 = n
  · have h1 : (X1.toList == nb.toList) = true := by rw [HE1.out]; exact decide_eq_true e1
    have HX1 := Lib.hid e1
    clear e1
    by_cases e2 : x2 = s
    · have h2 : (X2.toList == sb.toList) = true := by rw [HE3.out]; exact decide_eq_true e2
      have HX2 := Lib.hid e2
      clear e2
      go_upto_region 15 with fail
      refine law15ct HK1.out HK0.out h1 h2 q1 q2 _ _ _ _ _ _ _ _ _ _ _ _ _ _ _ _ _ _ _ _ _ _ _ _ _ _ _ _ _ _ _ _ _ _ _ _ _ _ _ _ _ _ _ _ _ _ _ _ _ _ _ _ _ _ _ _ _ _ _ _ _ _ _ _ _ _ _ _ _ _ _ _ _ _ _ _ _ _ _ _ _ _ _ _ _ _ _ _ _ _ _ _ _ _ _ _ _ _ _ _ _ _ _ _ _ _ _ _ _ _ _ _ _ _ _ _ _ _ _ _ _ _ _ _ _ _ _ _ _ _ _ _ _ _ _ _ _ _ _ _ _ _ _ _ _ _ _ _ _ _ _ _ _ _ _ _ _ _ _ _ _ _ _ ?_
      intro d81 d82 d83 d84 d85 d86 d87 d88 d89 d90 d91 d92 d93
      go_upto_region 18 with fail
      refine law18b HK1.out HK0.out q1 q2 _ _ _ _ _ _ _ _ _ _ _ _ _ _ _ _ _ _ _ _ _ _ _ _ _ _ _ _ _ _ _ _ _ _ _ _ _ _ _ _ _ _ _ _ _ _ _ _ _ _ _ _ _ _ _ _ _ _ _ _ _ _ _ _ _ _ _ _ _ _ _ _ _ _ _ _ _ _ _ _ _ _ _ _ _ _ _ _ _ _ _ _ _ _ _ _ _ _ _ _ _ _ _ _ _ _ _ _ _ _ _ _ _ _ _ _ _ _ _ _ _ _ _ _ _ _ _ _ _ _ _ _ _ _ _ _ _ _ _ _ _ _ _ _ _ _ _ _ _ _ _ _ _ _ _ _ _ _ _ _ _ _ _ ?_
      intro d99 d100 d101 d102 d103 d104 d105
      go_wp2_with fail
      obtain rfl := HT.out
      simp only [lw, HX1.out, HX2.out, HS.out] at HQ
      simp [HWM.out, HWM2.out, HX1.out, HX2.out, HS.out] at HQ ⊢
      first | (exact HQ.out _ _ _ _ _ _ _ _ _ _ _ _ _ _ _ _ _ _ _ _ _ _ _ _ _ _ _ _ _ _ _ _ _ _ _ _ _ _ _ _ _ _ _ _ _ _ _ _ _ _ HB3.out)
    · have h2 : (X2.toList == sb.toList) = false := by rw [HE3.out]; exact decide_eq_false e2
      have HX2 := Lib.hid e2
      clear e2
      go_upto_region 15 with fail
      refine law15cf HK1.out HK0.out h1 h2 q1 q2 _ _ _ _ _ _ _ _ _ _ _ _ _ _ _ _ _ _ _ _ _ _ _ _ _ _ _ _ _ _ _ _ _ _ _ _ _ _ _ _ _ _ _ _ _ _ _ _ _ _ _ _ _ _ _ _ _ _ _ _ _ _ _ _ _ _ _ _ _ _ _ _ _ _ _ _ _ _ _ _ _ _ _ _ _ _ _ _ _ _ _ _ _ _ _ _ _ _ _ _ _ _ _ _ _ _ _ _ _ _ _ _ _ _ _ _ _ _ _ _ _ _ _ _ _ _ _ _ _ _ _ _ _ _ _ _ _ _ _ _ _ _ _ _ _ _ _ _ _ _ _ _ _ _ _ _ _ _ _ _ _ _ _ ?_
      intro d81 d82 d83 d84 d85 d86 d87 d88 d89 d90 d91 d92 d93
      go_upto_region 18 with fail
      refine law18b HK1.out HK0.out q1 q2 _ _ _ _ _ _ _ _ _ _ _ _ _ _ _ _ _ _ _ _ _ _ _ _ _ _ _ _ _ _ _ _ _ _ _ _ _ _ _ _ _ _ _ _ _ _ _ _ _ _ _ _ _ _ _ _ _ _ _ _ _ _ _ _ _ _ _ _ _ _ _ _ _ _ _ _ _ _ _ _ _ _ _ _ _ _ _ _ _ _ _ _ _ _ _ _ _ _ _ _ _ _ _ _ _ _ _ _ _ _ _ _ _ _ _ _ _ _ _ _ _ _ _ _ _ _ _ _ _ _ _ _ _ _ _ _ _ _ _ _ _ _ _ _ _ _ _ _ _ _ _ _ _ _ _ _ _ _ _ _ _ _ _ ?_
      intro d99 d100 d101 d102 d103 d104 d105
      go_wp2_with fail
      obtain rfl := HT.out
      simp only [lw, HX1.out, HX2.out, HS.out] at HQ
      simp [HWM.out, HWM2.out, HX1.out, HX2.out, HS.out] at HQ ⊢
      first | (exact HQ.out _ _ _ _ _ _ _ _ _ _ _ _ _ _ _ _ _ _ _ _ _ _ _ _ _ _ _ _ _ _ _ _ _ _ _ _ _ _ _ _ _ _ _ _ _ _ _ _ _ _ HB3.out)
  · have h1 : (X1.toList == nb.toList) = false := by rw [HE1.out]; exact decide_eq_false e1
    have HX1 := Lib.hid e1
    clear e1
    go_upto_region 15 with fail
    refine law15b HK1.out HK0.out h1 q1 q2 _ _ _ _ _ _ _ _ _ _ _ _ _ _ _ _ _ _ _ _ _ _ _ _ _ _ _ _ _ _ _ _ _ _ _ _ _ _ _ _ _ _ _ _ _ _ _ _ _ _ _ _ _ _ _ _ _ _ _ _ _ _ _ _ _ _ _ _ _ _ _ _ _ _ _ _ _ _ _ _ _ _ _ _ _ _ _ _ _ _ _ _ _ _ _ _ _ _ _ _ _ _ _ _ _ _ _ _ _ _ _ _ _ _ _ _ _ _ _ _ _ _ _ _ _ _ _ _ _ _ _ _ _ _ _ _ _ _ _ _ _ _ _ _ _ _ _ _ _ _ _ _ _ _ _ _ _ _ _ _ _ _ _ ?_
    intro d81 d82 d83 d84 d85 d86 d87 d88 d89 d90 d91 d92 d93
    go_upto_region 18 with fail
    refine law18b HK1.out HK0.out q1 q2 _ _ _ _ _ _ _ _ _ _ _ _ _ _ _ _ _ _ _ _ _ _ _ _ _ _ _ _ _ _ _ _ _ _ _ _ _ _ _ _ _ _ _ _ _ _ _ _ _ _ _ _ _ _ _ _ _ _ _ _ _ _ _ _ _ _ _ _ _ _ _ _ _ _ _ _ _ _ _ _ _ _ _ _ _ _ _ _ _ _ _ _ _ _ _ _ _ _ _ _ _ _ _ _ _ _ _ _ _ _ _ _ _ _ _ _ _ _ _ _ _ _ _ _ _ _ _ _ _ _ _ _ _ _ _ _ _ _ _ _ _ _ _ _ _ _ _ _ _ _ _ _ _ _ _ _ _ _ _ _ _ _ _ ?_
    intro d99 d100 d101 d102 d103 d104 d105
    go_wp2_with fail
    obtain rfl := HT.out
    simp only [lw, HX1.out, HS.out] at HQ
    simp [HWM.out, HWM2.out, HX1.out, HS.out] at HQ ⊢
    first | (exact HQ.out _ _ _ _ _ _ _ _ _ _ _ _ _ _ _ _ _ _ _ _ _ _ _ _ _ _ _ _ _ _ _ _ _ _ _ _ _ _ _ _ _ _ _ _ _ _ _ _ _ _ HB3.out)
set_option maxHeartbeats 2000000 in
theorem lawRoundE {W0 : World} {pb g len c a b m k : Nat} {xs : List (VB × VB)} {n : VB} {x xp : VB × VB} {nb : ByteArray} {t : Nat × Nat × Nat} {Q : Exit → Act → World → Prop}
    (HX : Hid (xs[k]? = some x)) (HXP : Hid (0 < k → xs[k - 1]? = some xp))
    (HC : Hid (∀ w', Below W0.heap.size W0 w' → w'.cell? ⟨g, k * 5, none⟩ = some (.string ⟨x.2.toArray⟩) ∧ w'.cell? ⟨g, k * 5 + 1, none⟩ = some (.string ⟨x.1.toArray⟩) ∧ w'.cell? ⟨g, k * 5 + 2, none⟩ = some (.slice none 0 0) ∧ w'.cell? ⟨g, k * 5 + 3, none⟩ = some (.int .i64 0) ∧ w'.cell? ⟨g, k * 5 + 4, none⟩ = some (.int .i64 0)))
    (HCP : Hid (0 < k → ∀ w', Below W0.heap.size W0 w' → w'.cell? ⟨g, (k - 1) * 5, none⟩ = some (.string ⟨xp.2.toArray⟩)))
    (HP : Hid (∀ w', Below W0.heap.size W0 w' → w'.cell? ⟨pb, 8, none⟩ = some (.slice (some ⟨g, 0, none⟩) len c)))
    (HE : Hid (∀ y : VB, ((⟨y.toArray⟩ : ByteArray).toList == nb.toList) = decide (y = n)))
    (hkl : (k : Int) < (len : Nat)) (HB : Hid (k ≤ 1000 ∧ m ≤ 3000)) (HT : Hid (lw xs n [] (a, b, m) k x = t))
    (u0 u1 u2 u3 u4 u5 u7 u14 u15 u16 u17 u18 u19 u20 u21 u22 u23 u24 u25 u26 u27 u28 u29 u30 u31 u32 u33 u34 u35 u36 u37 u38 u39 u40 u41 u42 u43 u44 u45 u46 u47 u48 u49 u50 u51 u52 u53 u54 u55 u56 u57 u58 u59 u60 u61 u62 u63 u64 u65 u66 u67 u68 u69 u70 u71 u72 u73 u74 u75 u76 u77 u78 u79 u80 u81 u82 u83 u84 u85 u86 u87 u88 u89 u90 u91 u92 u93 u94 u95 u96 u97 u98 u99 u100 u101 u102 u103 u104 u105 u106 u107 u108 u109 u110 u111 u112 u113 u114 u115 u116 u117 u118 u119 u120 u121 u122 u123 u124 u125 u126 u127 u128 u129 u130 u131 u132 u133 u134 u135 u136 u137 u138 u139 u140 u141 u142 u143 u144 u145 u146 u147 u148 u149 u150 u151 u152 u153 u154 u155 u156 u157 u158 u159 u160 u161 u162 u163 u164 u165 : Value) (h : ∀ (d14 d76 d77 d78 d79 d80 d81 d82 d83 d84 d85 d86 d87 d88 d89 d90 d91 d92 d93 d94 d95 d96 d97 d98 d99 d100 d101 d102 d103 d104 d105 d106 d107 d108 d109 d110 d111 d112 d113 d114 d115 d116 d117 d118 d119 d120 d121 d122 d123 : Value) W', Below W0.heap.size W0 W' → Q .normal (⟨#[u0, u1, u2, u3, u4, u5, .pointer (some ⟨pb, 0, none⟩), u7, .string nb, .string ⟨#[]⟩, .int .i64 (t.2.2 : Nat), .int .i64 (t.1 : Nat), .int .i64 (t.2.1 : Nat), .int .i64 (k : Nat), d14, u15, u16, u17, u18, u19, u20, u21, u22, u23, u24, u25, u26, u27, u28, u29, u30, u31, u32, u33, u34, u35, u36, u37, u38, u39, u40, u41, u42, u43, u44, u45, u46, u47, u48, u49, u50, u51, u52, u53, u54, u55, u56, u57, u58, u59, u60, u61, u62, u63, u64, u65, u66, u67, u68, u69, u70, u71, u72, u73, u74, u75, d76, d77, d78, d79, d80, d81, d82, d83, d84, d85, d86, d87, d88, d89, d90, d91, d92, d93, d94, d95, d96, d97, d98, d99, d100, d101, d102, d103, d104, d105, d106, d107, d108, d109, d110, d111, d112, d113, d114, d115, d116, d117, d118, d119, d120, d121, d122, d123, u124, u125, u126, u127, u128, u129, u130, u131, u132, u133, u134, u135, u136, u137, u138, u139, u140, u141, u142, u143, u144, u145, u146, u147, u148, u149, u150, u151, u152, u153, u154, u155, u156, u157, u158, u159, u160, u161, u162, u163, u164, u165], []⟩ : Act) W') : Code.wp Tryz.prog lwBlk3 Q (⟨#[u0, u1, u2, u3, u4, u5, .pointer (some ⟨pb, 0, none⟩), u7, .string nb, .string ⟨#[]⟩, .int .i64 (m : Nat), .int .i64 (a : Nat), .int .i64 (b : Nat), .int .i64 (k : Nat), u14, u15, u16, u17, u18, u19, u20, u21, u22, u23, u24, u25, u26, u27, u28, u29, u30, u31, u32, u33, u34, u35, u36, u37, u38, u39, u40, u41, u42, u43, u44, u45, u46, u47, u48, u49, u50, u51, u52, u53, u54, u55, u56, u57, u58, u59, u60, u61, u62, u63, u64, u65, u66, u67, u68, u69, u70, u71, u72, u73, u74, u75, u76, u77, u78, u79, u80, u81, u82, u83, u84, u85, u86, u87, u88, u89, u90, u91, u92, u93, u94, u95, u96, u97, u98, u99, u100, u101, u102, u103, u104, u105, u106, u107, u108, u109, u110, u111, u112, u113, u114, u115, u116, u117, u118, u119, u120, u121, u122, u123, u124, u125, u126, u127, u128, u129, u130, u131, u132, u133, u134, u135, u136, u137, u138, u139, u140, u141, u142, u143, u144, u145, u146, u147, u148, u149, u150, u151, u152, u153, u154, u155, u156, u157, u158, u159, u160, u161, u162, u163, u164, u165], []⟩ : Act) W0 := by
  have HQ := Lib.hid h
  clear h
  conv => arg 2; whnf
  obtain ⟨c0, c1, c2, c3, c4⟩ := HC.out W0 (Below.refl _ _)
  have hp := HP.out W0 (Below.refl _ _)
  have HZr := Lib.hid (heap_alloc_new W0 pgZ)
  obtain ⟨x1, x2⟩ := x
  simp only at c0 c1
  go_wp2_with (refine wpList_store_row rfl _ _ 36 rfl W0.heap.size rfl [.string ⟨x2.toArray⟩, .string ⟨x1.toArray⟩, .slice none 0 0, .int .i64 0, .int .i64 0] rfl _ _ HZr.out rfl (by kernel_rfl) rfl ?_)
  intro W3 hrow hg3 hsz
  have HB3 := Lib.hid (((Below.refl W0.heap.size W0).alloc (Nat.le_refl _) pgZ).grown hg3 (by simp) (fun k e => by injection e with e; omega))
  have hk0 := cell_of_row W3 W0.heap.size 0 _ _ _ hrow
  have hk1 := cell_of_row W3 W0.heap.size 1 _ _ _ hrow
  have HK0 : Hid (W3.cell? ⟨W0.heap.size, 0, none⟩ = some (.string ⟨x2.toArray⟩)) := Lib.hid hk0
  have HK1 : Hid (W3.cell? ⟨W0.heap.size, 1, none⟩ = some (.string ⟨x1.toArray⟩)) := Lib.hid hk1
  have HP3 := Lib.hid (HP.out W3 HB3.out)
  have HCP3 := Lib.hid (fun h0 => HCP.out h0 W3 HB3.out)
  clear hrow hg3 hsz HZr c0 c1 c2 c3 c4 hp hk0 hk1 HC HCP HP
  generalize W0.heap.size = bx at HK0 HK1 ⊢
  have HE1 := Lib.hid (HE.out x1)
  have HE2 := Lib.hid (HE.out x2)
  generalize (⟨x1.toArray⟩ : ByteArray) = X1 at HK1 HE1
  generalize (⟨x2.toArray⟩ : ByteArray) = X2 at HK0 HE2
  have HWM := Lib.hid (vw64i m (by have := HB.out; omega))
  have HWM2 := Lib.hid (vw64j m (by have := HB.out; omega))
  by_cases e1 : x1 = n
  · have h1 : (X1.toList == nb.toList) = true := by rw [HE1.out]; exact decide_eq_true e1
    have HX1 := Lib.hid e1
    clear e1
    go_upto_region 15 with fail
    refine law15a1 HK1.out HK0.out h1 _ _ _ _ _ _ _ _ _ _ _ _ _ _ _ _ _ _ _ _ _ _ _ _ _ _ _ _ _ _ _ _ _ _ _ _ _ _ _ _ _ _ _ _ _ _ _ _ _ _ _ _ _ _ _ _ _ _ _ _ _ _ _ _ _ _ _ _ _ _ _ _ _ _ _ _ _ _ _ _ _ _ _ _ _ _ _ _ _ _ _ _ _ _ _ _ _ _ _ _ _ _ _ _ _ _ _ _ _ _ _ _ _ _ _ _ _ _ _ _ _ _ _ _ _ _ _ _ _ _ _ _ _ _ _ _ _ _ _ _ _ _ _ _ _ _ _ _ _ _ _ _ _ _ _ _ _ _ _ _ _ _ _ ?_
    intro d81 d82 d83 d84 d85 d86 d87 d88 d89 d90 d91 d92 d93
    by_cases e2 : x2 = n
    · have h2 : (X2.toList == nb.toList) = true := by rw [HE2.out]; exact decide_eq_true e2
      have HX2 := Lib.hid e2
      clear e2
      go_upto_region 18 with fail
      refine law18at HK1.out HK0.out h2 _ _ _ _ _ _ _ _ _ _ _ _ _ _ _ _ _ _ _ _ _ _ _ _ _ _ _ _ _ _ _ _ _ _ _ _ _ _ _ _ _ _ _ _ _ _ _ _ _ _ _ _ _ _ _ _ _ _ _ _ _ _ _ _ _ _ _ _ _ _ _ _ _ _ _ _ _ _ _ _ _ _ _ _ _ _ _ _ _ _ _ _ _ _ _ _ _ _ _ _ _ _ _ _ _ _ _ _ _ _ _ _ _ _ _ _ _ _ _ _ _ _ _ _ _ _ _ _ _ _ _ _ _ _ _ _ _ _ _ _ _ _ _ _ _ _ _ _ _ _ _ _ _ _ _ _ _ _ _ _ _ _ _ ?_
      intro d99 d100 d101 d102 d103 d104 d105
      by_cases e0 : k = 0
      · subst e0
        go_upto_region 20 with fail
        refine law20a trivial _ _ _ _ _ _ _ _ _ _ _ _ _ _ _ _ _ _ _ _ _ _ _ _ _ _ _ _ _ _ _ _ _ _ _ _ _ _ _ _ _ _ _ _ _ _ _ _ _ _ _ _ _ _ _ _ _ _ _ _ _ _ _ _ _ _ _ _ _ _ _ _ _ _ _ _ _ _ _ _ _ _ _ _ _ _ _ _ _ _ _ _ _ _ _ _ _ _ _ _ _ _ _ _ _ _ _ _ _ _ _ _ _ _ _ _ _ _ _ _ _ _ _ _ _ _ _ _ _ _ _ _ _ _ _ _ _ _ _ _ _ _ _ _ _ _ _ _ _ _ _ _ _ _ _ _ _ _ _ _ _ _ _ ?_
        intro d108 d109 d110 d111 d112 d113 d114 d115 d116 d117 d118 d119
        go_wp2_with fail
        obtain rfl := HT.out
        simp only [lw, HX1.out, HX2.out] at HQ
        simp [HWM.out, HWM2.out, HX1.out, HX2.out] at HQ ⊢
        first | (exact HQ.out _ _ _ _ _ _ _ _ _ _ _ _ _ _ _ _ _ _ _ _ _ _ _ _ _ _ _ _ _ _ _ _ _ _ _ _ _ _ _ _ _ _ _ _ _ _ _ _ _ _ HB3.out)
      · have HK9 := Lib.hid (Nat.pos_of_ne_zero e0)
        have hz0 : ((k : Int) == 0) = false := by simp; omega
        have HCC := Lib.hid (HCP3.out HK9.out)
        have HEP := Lib.hid (HE.out xp.2)
        have HXX := Lib.hid (HXP.out HK9.out)
        generalize (⟨xp.2.toArray⟩ : ByteArray) = XP at HCC HEP
        have hwk : wrap64 ((k : Int) - 1) = ((k - 1 : Nat) : Int) := by have := HB.out; unfold wrap64; omega
        have hkk : ((k - 1 : Nat) : Int) < (len : Nat) := by omega
        have HZ0 := Lib.hid e0
        clear e0
        by_cases e3 : xp.2 = n
        · have h3 : (XP.toList == nb.toList) = true := by rw [HEP.out]; exact decide_eq_true e3
          have HX3 := Lib.hid e3
          clear e3
          go_upto_region 20 with fail
          refine law20bt hz0 hwk hkk HP3.out HCC.out h3 _ _ _ _ _ _ _ _ _ _ _ _ _ _ _ _ _ _ _ _ _ _ _ _ _ _ _ _ _ _ _ _ _ _ _ _ _ _ _ _ _ _ _ _ _ _ _ _ _ _ _ _ _ _ _ _ _ _ _ _ _ _ _ _ _ _ _ _ _ _ _ _ _ _ _ _ _ _ _ _ _ _ _ _ _ _ _ _ _ _ _ _ _ _ _ _ _ _ _ _ _ _ _ _ _ _ _ _ _ _ _ _ _ _ _ _ _ _ _ _ _ _ _ _ _ _ _ _ _ _ _ _ _ _ _ _ _ _ _ _ _ _ _ _ _ _ _ _ _ _ _ _ _ _ _ _ _ _ _ _ _ _ _ ?_
          intro d108 d109 d110 d111 d112 d113 d114 d115 d116 d117 d118 d119
          clear hz0 hwk hkk
          go_wp2_with fail
          obtain rfl := HT.out
          simp only [lw, HX1.out, HX2.out, HXX.out, HX3.out, HZ0.out] at HQ
          simp [HWM.out, HWM2.out, HX1.out, HX2.out, HXX.out, HX3.out, HZ0.out] at HQ ⊢
          first | (exact HQ.out _ _ _ _ _ _ _ _ _ _ _ _ _ _ _ _ _ _ _ _ _ _ _ _ _ _ _ _ _ _ _ _ _ _ _ _ _ _ _ _ _ _ _ _ _ _ _ _ _ _ HB3.out)
        · have h3 : (XP.toList == nb.toList) = false := by rw [HEP.out]; exact decide_eq_false e3
          have HX3 := Lib.hid e3
          clear e3
          go_upto_region 20 with fail
          refine law20bf hz0 hwk hkk HP3.out HCC.out h3 _ _ _ _ _ _ _ _ _ _ _ _ _ _ _ _ _ _ _ _ _ _ _ _ _ _ _ _ _ _ _ _ _ _ _ _ _ _ _ _ _ _ _ _ _ _ _ _ _ _ _ _ _ _ _ _ _ _ _ _ _ _ _ _ _ _ _ _ _ _ _ _ _ _ _ _ _ _ _ _ _ _ _ _ _ _ _ _ _ _ _ _ _ _ _ _ _ _ _ _ _ _ _ _ _ _ _ _ _ _ _ _ _ _ _ _ _ _ _ _ _ _ _ _ _ _ _ _ _ _ _ _ _ _ _ _ _ _ _ _ _ _ _ _ _ _ _ _ _ _ _ _ _ _ _ _ _ _ _ _ _ _ _ ?_
          intro d108 d109 d110 d111 d112 d113 d114 d115 d116 d117 d118 d119
          clear hz0 hwk hkk
          go_wp2_with fail
          obtain rfl := HT.out
          simp only [lw, HX1.out, HX2.out, HXX.out, HX3.out, HZ0.out] at HQ
          simp [HWM.out, HWM2.out, HX1.out, HX2.out, HXX.out, HX3.out, HZ0.out] at HQ ⊢
          first | (exact HQ.out _ _ _ _ _ _ _ _ _ _ _ _ _ _ _ _ _ _ _ _ _ _ _ _ _ _ _ _ _ _ _ _ _ _ _ _ _ _ _ _ _ _ _ _ _ _ _ _ _ _ HB3.out)
    · have h2 : (X2.toList == nb.toList) = false := by rw [HE2.out]; exact decide_eq_false e2
      have HX2 := Lib.hid e2
      clear e2
      go_upto_region 18 with fail
      refine law18af HK1.out HK0.out h2 _ _ _ _ _ _ _ _ _ _ _ _ _ _ _ _ _ _ _ _ _ _ _ _ _ _ _ _ _ _ _ _ _ _ _ _ _ _ _ _ _ _ _ _ _ _ _ _ _ _ _ _ _ _ _ _ _ _ _ _ _ _ _ _ _ _ _ _ _ _ _ _ _ _ _ _ _ _ _ _ _ _ _ _ _ _ _ _ _ _ _ _ _ _ _ _ _ _ _ _ _ _ _ _ _ _ _ _ _ _ _ _ _ _ _ _ _ _ _ _ _ _ _ _ _ _ _ _ _ _ _ _ _ _ _ _ _ _ _ _ _ _ _ _ _ _ _ _ _ _ _ _ _ _ _ _ _ _ _ _ _ _ _ ?_
      intro d99 d100 d101 d102 d103 d104 d105
      go_wp2_with fail
      obtain rfl := HT.out
      simp only [lw, HX1.out, HX2.out] at HQ
      simp [HWM.out, HWM2.out, HX1.out, HX2.out] at HQ ⊢
      first | (exact HQ.out _ _ _ _ _ _ _ _ _ _ _ _ _ _ _ _ _ _ _ _ _ _ _ _ _ _ _ _ _ _ _ _ _ _ _ _ _ _ _ _ _ _ _ _ _ _ _ _ _ _ HB3.out)
  · have h1 : (X1.toList == nb.toList) = false := by rw [HE1.out]; exact decide_eq_false e1
    have HX1 := Lib.hid e1
    clear e1
    go_upto_region 15 with fail
    refine law15a0 HK1.out HK0.out h1 _ _ _ _ _ _ _ _ _ _ _ _ _ _ _ _ _ _ _ _ _ _ _ _ _ _ _ _ _ _ _ _ _ _ _ _ _ _ _ _ _ _ _ _ _ _ _ _ _ _ _ _ _ _ _ _ _ _ _ _ _ _ _ _ _ _ _ _ _ _ _ _ _ _ _ _ _ _ _ _ _ _ _ _ _ _ _ _ _ _ _ _ _ _ _ _ _ _ _ _ _ _ _ _ _ _ _ _ _ _ _ _ _ _ _ _ _ _ _ _ _ _ _ _ _ _ _ _ _ _ _ _ _ _ _ _ _ _ _ _ _ _ _ _ _ _ _ _ _ _ _ _ _ _ _ _ _ _ _ _ _ _ _ ?_
    intro d81 d82 d83 d84 d85 d86 d87 d88 d89 d90 d91 d92 d93
    by_cases e2 : x2 = n
    · have h2 : (X2.toList == nb.toList) = true := by rw [HE2.out]; exact decide_eq_true e2
      have HX2 := Lib.hid e2
      clear e2
      go_upto_region 18 with fail
      refine law18at HK1.out HK0.out h2 _ _ _ _ _ _ _ _ _ _ _ _ _ _ _ _ _ _ _ _ _ _ _ _ _ _ _ _ _ _ _ _ _ _ _ _ _ _ _ _ _ _ _ _ _ _ _ _ _ _ _ _ _ _ _ _ _ _ _ _ _ _ _ _ _ _ _ _ _ _ _ _ _ _ _ _ _ _ _ _ _ _ _ _ _ _ _ _ _ _ _ _ _ _ _ _ _ _ _ _ _ _ _ _ _ _ _ _ _ _ _ _ _ _ _ _ _ _ _ _ _ _ _ _ _ _ _ _ _ _ _ _ _ _ _ _ _ _ _ _ _ _ _ _ _ _ _ _ _ _ _ _ _ _ _ _ _ _ _ _ _ _ _ ?_
      intro d99 d100 d101 d102 d103 d104 d105
      by_cases e0 : k = 0
      · subst e0
        go_upto_region 20 with fail
        refine law20a trivial _ _ _ _ _ _ _ _ _ _ _ _ _ _ _ _ _ _ _ _ _ _ _ _ _ _ _ _ _ _ _ _ _ _ _ _ _ _ _ _ _ _ _ _ _ _ _ _ _ _ _ _ _ _ _ _ _ _ _ _ _ _ _ _ _ _ _ _ _ _ _ _ _ _ _ _ _ _ _ _ _ _ _ _ _ _ _ _ _ _ _ _ _ _ _ _ _ _ _ _ _ _ _ _ _ _ _ _ _ _ _ _ _ _ _ _ _ _ _ _ _ _ _ _ _ _ _ _ _ _ _ _ _ _ _ _ _ _ _ _ _ _ _ _ _ _ _ _ _ _ _ _ _ _ _ _ _ _ _ _ _ _ _ ?_
        intro d108 d109 d110 d111 d112 d113 d114 d115 d116 d117 d118 d119
        go_wp2_with fail
        obtain rfl := HT.out
        simp only [lw, HX1.out, HX2.out] at HQ
        simp [HWM.out, HWM2.out, HX1.out, HX2.out] at HQ ⊢
        first | (exact HQ.out _ _ _ _ _ _ _ _ _ _ _ _ _ _ _ _ _ _ _ _ _ _ _ _ _ _ _ _ _ _ _ _ _ _ _ _ _ _ _ _ _ _ _ _ _ _ _ _ _ _ HB3.out)
      · have HK9 := Lib.hid (Nat.pos_of_ne_zero e0)
        have hz0 : ((k : Int) == 0) = false := by simp; omega
        have HCC := Lib.hid (HCP3.out HK9.out)
        have HEP := Lib.hid (HE.out xp.2)
        have HXX := Lib.hid (HXP.out HK9.out)
        generalize (⟨xp.2.toArray⟩ : ByteArray) = XP at HCC HEP
        have hwk : wrap64 ((k : Int) - 1) = ((k - 1 : Nat) : Int) := by have := HB.out; unfold wrap64; omega
        have hkk : ((k - 1 : Nat) : Int) < (len : Nat) := by omega
        have HZ0 := Lib.hid e0
        clear e0
        by_cases e3 : xp.2 = n
        · have h3 : (XP.toList == nb.toList) = true := by rw [HEP.out]; exact decide_eq_true e3
          have HX3 := Lib.hid e3
          clear e3
          go_upto_region 20 with fail
          refine law20bt hz0 hwk hkk HP3.out HCC.out h3 _ _ _ _ _ _ _ _ _ _ _ _ _ _ _ _ _ _ _ _ _ _ _ _ _ _ _ _ _ _ _ _ _ _ _ _ _ _ _ _ _ _ _ _ _ _ _ _ _ _ _ _ _ _ _ _ _ _ _ _ _ _ _ _ _ _ _ _ _ _ _ _ _ _ _ _ _ _ _ _ _ _ _ _ _ _ _ _ _ _ _ _ _ _ _ _ _ _ _ _ _ _ _ _ _ _ _ _ _ _ _ _ _ _ _ _ _ _ _ _ _ _ _ _ _ _ _ _ _ _ _ _ _ _ _ _ _ _ _ _ _ _ _ _ _ _ _ _ _ _ _ _ _ _ _ _ _ _ _ _ _ _ _ ?_
          intro d108 d109 d110 d111 d112 d113 d114 d115 d116 d117 d118 d119
          clear hz0 hwk hkk
          go_wp2_with fail
          obtain rfl := HT.out
          simp only [lw, HX1.out, HX2.out, HXX.out, HX3.out, HZ0.out] at HQ
          simp [HWM.out, HWM2.out, HX1.out, HX2.out, HXX.out, HX3.out, HZ0.out] at HQ ⊢
          first | (exact HQ.out _ _ _ _ _ _ _ _ _ _ _ _ _ _ _ _ _ _ _ _ _ _ _ _ _ _ _ _ _ _ _ _ _ _ _ _ _ _ _ _ _ _ _ _ _ _ _ _ _ _ HB3.out)
        · have h3 : (XP.toList == nb.toList) = false := by rw [HEP.out]; exact decide_eq_false e3
          have HX3 := Lib.hid e3
          clear e3
          go_upto_region 20 with fail
          refine law20bf hz0 hwk hkk HP3.out HCC.out h3 _ _ _ _ _ _ _ _ _ _ _ _ _ _ _ _ _ _ _ _ _ _ _ _ _ _ _ _ _ _ _ _ _ _ _ _ _ _ _ _ _ _ _ _ _ _ _ _ _ _ _ _ _ _ _ _ _ _ _ _ _ _ _ _ _ _ _ _ _ _ _ _ _ _ _ _ _ _ _ _ _ _ _ _ _ _ _ _ _ _ _ _ _ _ _ _ _ _ _ _ _ _ _ _ _ _ _ _ _ _ _ _ _ _ _ _ _ _ _ _ _ _ _ _ _ _ _ _ _ _ _ _ _ _ _ _ _ _ _ _ _ _ _ _ _ _ _ _ _ _ _ _ _ _ _ _ _ _ _ _ _ _ _ ?_
          intro d108 d109 d110 d111 d112 d113 d114 d115 d116 d117 d118 d119
          clear hz0 hwk hkk
          go_wp2_with fail
          obtain rfl := HT.out
          simp only [lw, HX1.out, HX2.out, HXX.out, HX3.out, HZ0.out] at HQ
          simp [HWM.out, HWM2.out, HX1.out, HX2.out, HXX.out, HX3.out, HZ0.out] at HQ ⊢
          first | (exact HQ.out _ _ _ _ _ _ _ _ _ _ _ _ _ _ _ _ _ _ _ _ _ _ _ _ _ _ _ _ _ _ _ _ _ _ _ _ _ _ _ _ _ _ _ _ _ _ _ _ _ _ HB3.out)
    · have h2 : (X2.toList == nb.toList) = false := by rw [HE2.out]; exact decide_eq_false e2
      have HX2 := Lib.hid e2
      clear e2
      go_upto_region 18 with fail
      refine law18af HK1.out HK0.out h2 _ _ _ _ _ _ _ _ _ _ _ _ _ _ _ _ _ _ _ _ _ _ _ _ _ _ _ _ _ _ _ _ _ _ _ _ _ _ _ _ _ _ _ _ _ _ _ _ _ _ _ _ _ _ _ _ _ _ _ _ _ _ _ _ _ _ _ _ _ _ _ _ _ _ _ _ _ _ _ _ _ _ _ _ _ _ _ _ _ _ _ _ _ _ _ _ _ _ _ _ _ _ _ _ _ _ _ _ _ _ _ _ _ _ _ _ _ _ _ _ _ _ _ _ _ _ _ _ _ _ _ _ _ _ _ _ _ _ _ _ _ _ _ _ _ _ _ _ _ _ _ _ _ _ _ _ _ _ _ _ _ _ _ ?_
      intro d99 d100 d101 d102 d103 d104 d105
      go_wp2_with fail
      obtain rfl := HT.out
      simp only [lw, HX1.out, HX2.out] at HQ
      simp [HWM.out, HWM2.out, HX1.out, HX2.out] at HQ ⊢
      first | (exact HQ.out _ _ _ _ _ _ _ _ _ _ _ _ _ _ _ _ _ _ _ _ _ _ _ _ _ _ _ _ _ _ _ _ _ _ _ _ _ _ _ _ _ _ _ _ _ _ _ _ _ _ HB3.out)
end Go.Proofs.YtpcalgoaccmofaaGreatDoor
