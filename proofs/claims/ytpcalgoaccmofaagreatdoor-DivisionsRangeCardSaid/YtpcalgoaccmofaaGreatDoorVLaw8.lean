/- DivisionsRange: a paragraph is appended to those of the program. Printed by gen_vlaw.py. -/
import Derived.Test.YtpcalgoaccmofaaGreatDoorVRange
import Derived.Test.YtpcalgoaccmofaaGreatDoorHeld4
import Derived.Laws.AppendOwn
import Derived.OwnWalk
import Derived.Maps.AppendAt
import Derived.Deep.AppendLies
set_option linter.unusedVariables false
set_option linter.unusedSimpArgs false
namespace Go.Proofs.YtpcalgoaccmofaaGreatDoor
open Go.RowKit Go.Lib
set_option maxRecDepth 100000
def pgCells (l : List (VB × VB)) : List Value := l.flatMap pgRow
abbrev pgO (v : Value) : Obj := .cells #[.string ⟨#[]⟩, .slice none 0 0, .slice none 0 0, .slice none 0 0, .slice none 0 0, .slice none 0 0, .slice none 0 0, .slice none 0 0, v] 32 (0, 0)
theorem tmod5 (a : Nat) : Int.tmod (a : Int) 5 = ((a % 5 : Nat) : Int) := by
  rw [Int.tmod_eq_emod_of_nonneg (by omega)]; omega
/-- Nothing turns below base but the block pb. -/
structure PgFr (base pb : Nat) (W W' : World) : Prop where
  os : W'.os = W.os
  tape : W'.tape = W.tape
  output : W'.output = W.output
  size : W.heap.size ≤ W'.heap.size
  block : ∀ k, k < base → k ≠ pb → W'.heap[k]? = W.heap[k]?
theorem PgFr.refl (base pb : Nat) (W : World) : PgFr base pb W W := ⟨rfl, rfl, rfl, Nat.le_refl _, fun _ _ _ => rfl⟩
theorem PgFr.trans {base pb : Nat} {A B C : World} (h : PgFr base pb A B) (k : PgFr base pb B C) : PgFr base pb A C :=
  ⟨k.os.trans h.os, k.tape.trans h.tape, k.output.trans h.output, Nat.le_trans h.size k.size, fun i hi hn => (k.block i hi hn).trans (h.block i hi hn)⟩
theorem PgFr.below {base pb : Nat} {A B : World} (h : Below A.heap.size A B) (hb : base ≤ A.heap.size) : PgFr base pb A B := ⟨h.os, h.tape, h.output, h.size, fun k hk _ => h.block k (by omega)⟩
theorem PgFr.grown {base pb : Nat} {A B : World} {r : Option Nat} (h : A.grownBy B r) (hb : base ≤ A.heap.size) (hr : ∀ k, r = some k → base ≤ k ∨ k = pb) : PgFr base pb A B :=
  ⟨h.os, h.tape, h.output, h.size, fun k hk hn => h.block k (by omega) (fun e => by rcases hr k e.symm with h | h <;> omega)⟩
theorem pgInfo_parts {P : Program} {t : TypeId} {z : Value} {size bytes : Nat} (h : (P.info? t).map (fun i => (i.zero, i.size, i.bytes)) = some (some z, size, bytes)) : ∃ i, P.info? t = some i ∧ i.zero = some z ∧ i.size = size ∧ i.bytes = bytes := by
  cases hi : P.info? t with
  | none => rw [hi] at h; cases h
  | some i => rw [hi] at h; simp at h; exact ⟨i, rfl, h.1, h.2.1, h.2.2⟩
theorem Tryz.infoPg : (Tryz.prog.info? 36).map (fun i => (i.zero, i.size, i.bytes)) = some (some (.agg #[.string ⟨#[]⟩, .string ⟨#[]⟩, .slice none 0 0, .int .i64 0, .int .i64 0]), 5, 72) := by kernel_rfl
section
variable {W W' : World} {base n sz : Nat} {e : TypeId} {v : Value} {xs : List Value}
theorem own_sameV (h : W.ownsRow base e sz v n xs) (hs : ∀ k, v.ownBlock = some k → W'.heap[k]? = W.heap[k]?) : W'.ownsRow base e sz v n xs := by
  obtain ⟨hl, h | ⟨g, cap, cur, rfl, hb, hg, h1⟩⟩ := h
  · exact ⟨hl, .inl h⟩
  · exact ⟨hl, .inr ⟨g, cap, cur, rfl, hb, (hs g rfl).trans hg, h1⟩⟩
theorem own_sliceV (h : W.ownsRow base e sz v n xs) : ∃ A c, v = .slice A n c := by
  rcases h.2 with ⟨rfl, h0⟩ | ⟨g', cap, cur, rfl, _⟩
  · exact ⟨none, 0, by rw [h0]⟩
  · exact ⟨_, _, rfl⟩
theorem blk_setV {w : World} {g : Nat} {t : TypeId} {cs : Array Value} (h : w.heap[g]? = some (.cells cs t (0, 0))) (i : Nat) (u : Value) : (w.setCell ⟨g, i, none⟩ u).heap[g]? = some (.cells (cs.setIfInBounds i u) t (0, 0)) := by
  simp [World.setCell, Array.getElem?_modify, h]
theorem grown_setV {w : World} (p i : Nat) (v : Value) : w.grownBy (w.setCell ⟨p, i, none⟩ v) (some p) :=
  ⟨rfl, rfl, rfl, by simp [World.setCell], fun k hk hn => Below.heap_setCell w _ v k (fun e => hn (by rw [e]))⟩
end
noncomputable def lwReg8 : Code := (Tryz.f3.body.bind (regOf 8)).getD .skip
set_option maxHeartbeats 4000000 in
theorem law8 {W0 : World} {ga oa ca L pb fb j a b ka kb : Nat} {v : Value} {base : Nat} {SA SB : ByteArray} {Q : Exit → Act → World → Prop} (hQ : ∀ c a d v w, Q (.panic c) (Act.put a d v) w → Q (.panic c) a w)
    (HA : Hid (∀ w', Below W0.heap.size W0 w' → w'.cell? ⟨ga, oa + j * 2, none⟩ = some (.int .u8 (a : Nat)) ∧ w'.cell? ⟨ga, oa + j * 2 + 1, none⟩ = some (.int .u8 (b : Nat))))
    (HF : Hid (∀ w', Below W0.heap.size W0 w' → w'.cell? ⟨fb, ka, none⟩ = some (.string SA) ∧ w'.cell? ⟨fb, kb, none⟩ = some (.string SB)))
    (HP : Hid (∀ w', Below W0.heap.size W0 w' → w'.cell? ⟨pb, 8, none⟩ = some v))
    (hjL : (j : Int) < (L : Nat)) (ha5 : (ka : Int) < 5) (hb5 : (kb : Int) < 5) (ta : Int.tmod (a : Int) 5 = (ka : Nat)) (tb : Int.tmod (b : Int) 5 = (kb : Nat))
    {n : Nat} {cs : List Value} (HO : Hid (W0.ownsRow base 36 5 v n cs)) (HR : Hid (W0.heap[pb]? = some (pgO v))) (hbs : pb < base ∧ base ≤ W0.heap.size ∧ n ≤ 1000)
    (u1 u2 u3 u4 u8 u9 u10 u11 u12 u13 u14 u15 u16 u17 u18 u19 u20 u21 u22 u23 u24 u25 u26 u27 u28 u29 u30 u31 u32 u33 u34 u35 u36 u37 u38 u39 u40 u41 u42 u43 u44 u45 u46 u47 u48 u49 u50 u51 u52 u53 u54 u55 u56 u57 u58 u59 u60 u61 u62 u63 u64 u65 u66 u67 u68 u69 u70 u71 u72 u73 u74 u75 u76 u77 u78 u79 u80 u81 u82 u83 u84 u85 u86 u87 u88 u89 u90 u91 u92 u93 u94 u95 u96 u97 u98 u99 u100 u101 u102 u103 u104 u105 u106 u107 u108 u109 u110 u111 u112 u113 u114 u115 u116 u117 u118 u119 u120 u121 u122 u123 u124 u125 u126 u127 u128 u129 u130 u131 u132 u133 u134 u135 u136 u137 u138 u139 u140 u141 u142 u143 u144 u145 u146 u147 u148 u149 u150 u151 u152 u153 u154 u155 u156 u157 u158 u159 u160 u161 u162 u163 u164 u165 : Value) (h : ∀ (d30 d31 d32 d33 d34 d35 d36 d37 d38 d39 d40 d41 d42 d43 d44 d45 d46 d47 d48 d49 d50 d51 d52 d53 : Value) v' W', W'.ownsRow base 36 5 v' (n + 1) (cs ++ [.string SB, .string SA, .slice none 0 0, .int .i64 0, .int .i64 0]) → W'.heap[pb]? = some (pgO v') → PgFr base pb W0 W' → Q .normal (⟨#[.slice (some ⟨ga, oa, none⟩) L ca, u1, u2, u3, u4, .slice (some ⟨fb, 0, none⟩) 5 5, .pointer (some ⟨pb, 0, none⟩), .int .i64 (j : Nat), u8, u9, u10, u11, u12, u13, u14, u15, u16, u17, u18, u19, u20, u21, u22, u23, u24, u25, u26, u27, u28, u29, d30, d31, d32, d33, d34, d35, d36, d37, d38, d39, d40, d41, d42, d43, d44, d45, d46, d47, d48, d49, d50, d51, d52, d53, u54, u55, u56, u57, u58, u59, u60, u61, u62, u63, u64, u65, u66, u67, u68, u69, u70, u71, u72, u73, u74, u75, u76, u77, u78, u79, u80, u81, u82, u83, u84, u85, u86, u87, u88, u89, u90, u91, u92, u93, u94, u95, u96, u97, u98, u99, u100, u101, u102, u103, u104, u105, u106, u107, u108, u109, u110, u111, u112, u113, u114, u115, u116, u117, u118, u119, u120, u121, u122, u123, u124, u125, u126, u127, u128, u129, u130, u131, u132, u133, u134, u135, u136, u137, u138, u139, u140, u141, u142, u143, u144, u145, u146, u147, u148, u149, u150, u151, u152, u153, u154, u155, u156, u157, u158, u159, u160, u161, u162, u163, u164, u165], []⟩ : Act) W') : Code.wp Tryz.prog lwReg8 Q (⟨#[.slice (some ⟨ga, oa, none⟩) L ca, u1, u2, u3, u4, .slice (some ⟨fb, 0, none⟩) 5 5, .pointer (some ⟨pb, 0, none⟩), .int .i64 (j : Nat), u8, u9, u10, u11, u12, u13, u14, u15, u16, u17, u18, u19, u20, u21, u22, u23, u24, u25, u26, u27, u28, u29, u30, u31, u32, u33, u34, u35, u36, u37, u38, u39, u40, u41, u42, u43, u44, u45, u46, u47, u48, u49, u50, u51, u52, u53, u54, u55, u56, u57, u58, u59, u60, u61, u62, u63, u64, u65, u66, u67, u68, u69, u70, u71, u72, u73, u74, u75, u76, u77, u78, u79, u80, u81, u82, u83, u84, u85, u86, u87, u88, u89, u90, u91, u92, u93, u94, u95, u96, u97, u98, u99, u100, u101, u102, u103, u104, u105, u106, u107, u108, u109, u110, u111, u112, u113, u114, u115, u116, u117, u118, u119, u120, u121, u122, u123, u124, u125, u126, u127, u128, u129, u130, u131, u132, u133, u134, u135, u136, u137, u138, u139, u140, u141, u142, u143, u144, u145, u146, u147, u148, u149, u150, u151, u152, u153, u154, u155, u156, u157, u158, u159, u160, u161, u162, u163, u164, u165], []⟩ : Act) W0 := by
  have HX := Lib.hid h
  clear h
  conv => arg 2; whnf
  have HBD : Hid (Below W0.heap.size W0 W0.drew) := Lib.hid ((Below.refl _ W0).drew)
  refine wp_region_pm 22 (.rd 0 (.rd 1 (.rd 2 (.rd 3 (.rd 4 (.rd 5 (.rd 6 (.rd 7 (.rd 8 (.rd 9 (.rd 10 (.rd 11 (.rd 12 (.rd 13 (.rd 14 (.rd 15 (.rd 16 (.rd 17 (.rd 18 (.rd 19 (.rd 20 (.wr 21 .fin)))))))))))))))))))))) (fun w' => Below W0.heap.size W0 w') (by kernel_rfl) (by kernel_rfl) hQ HBD.out ?_
  obtain ⟨i0, hi, hz0, hz1, hz2⟩ := pgInfo_parts Tryz.infoPg
  have HI := Lib.hid (And.intro hi (And.intro hz0 (And.intro hz1 hz2)))
  have HBS := Lib.hid hbs
  clear hi hz0 hz1 hz2 hbs
  repeat
    refine wpPm_read (v := ?_) (by rfl) (by rfl) (fun w' hS => ?_) (fun K hK => ?_)
    rotate_left
    · obtain ⟨ha, hb⟩ := HA.out w' hS
      obtain ⟨fa, fb'⟩ := HF.out w' hS
      have hp := HP.out w' hS
      clear hS
      go_simp
      try with_reducible rfl
    go_simp
    refine hK _ ?_
    clear hK K
  refine wpPm_write (by rfl) (fun K hK => ?_)
  go_simp
  refine hK.out _ _ (fun w' => Below W0.heap.size W0 w') (fun _ h => h) (HBD.out.alloc (by simp) _) ?_
  clear hK K
  show wpList _ _ _ _ _ _
  have hb1 : Below W0.heap.size W0 (W0.alloc (.cells #[.string SB, .string SA, .slice none 0 0, .int .i64 0, .int .i64 0] 36 (0, 0) : Obj)).drew := ((Below.refl W0.heap.size W0).alloc (Nat.le_refl _) _).drew
  have hnew : (W0.alloc (.cells #[.string SB, .string SA, .slice none 0 0, .int .i64 0, .int .i64 0] 36 (0, 0) : Obj)).drew.heap[W0.heap.size]? = some (.cells #[.string SB, .string SA, .slice none 0 0, .int .i64 0, .int .i64 0] 36 (0, 0) : Obj) := heap_alloc_new W0 _
  have HB1 := Lib.hid hb1
  have HNW := Lib.hid hnew
  clear hb1 hnew
  generalize (W0.alloc (.cells #[.string SB, .string SA, .slice none 0 0, .int .i64 0, .int .i64 0] 36 (0, 0) : Obj)).drew = W1 at HB1 HNW ⊢
  have HO1 := Lib.hid (own_sameV HO.out (fun k hk => HB1.out.block k (HO.out.lt k hk).2))
  have HR1 : Hid (W1.heap[pb]? = some (pgO v)) := Lib.hid ((HB1.out.block pb (by have := HBS.out; omega)).trans HR.out)
  clear HA HF HP HO HR HBD
  obtain ⟨hi, hz0, hz1, hz2⟩ := HI.out
  refine wpList_append_own_at _ rfl _ _ 30 rfl base 36 i0 _ 5 72 Tryz.underlying30 hi hz0 hz1 hz2 rfl (by decide) _ _ _ rfl HO1.out ⟨W0.heap.size, 0, none⟩ 1 1 [.string SB, .string SA, .slice none 0 0, .int .i64 0, .int .i64 0] rfl rfl (World.news_of_block HNW.out) (by simp [Value.oneCell']) (by have := HBS.out; unfold maxLen; omega) (by have := HBS.out; omega) (by have := HBS.out; have := HB1.out.size; omega) ?_
  intro v' W2 hown hg hnil hloc
  have HO2 := Lib.hid hown
  have HG2 := Lib.hid hg
  have HL := Lib.hid hloc
  have hpb2 : W2.heap[pb]? = some (pgO v) := (hg.block pb (by have := HBS.out; have := HB1.out.size; omega) (fun e => by have := (HO1.out.lt pb e.symm).1; have := HBS.out; omega)).trans HR1.out
  have HR2 := Lib.hid hpb2
  have hcp := fun k => cell_of_row W2 pb k _ _ _ hpb2
  have hfz : ∀ k, W2.frozen? ⟨pb, k, none⟩ = false := fun k => by simp [World.frozen?, hpb2]
  clear hown hg hnil hloc hpb2 hi hz0 hz1 hz2
  obtain ⟨A2, c2, rfl⟩ := own_sliceV HO2.out
  go_wp2_with fail
  refine HX.out _ _ _ _ _ _ _ _ _ _ _ _ _ _ _ _ _ _ _ _ _ _ _ _ (.slice A2 (n + 1) c2) _ ?_ ?_ ?_
  · exact own_sameV HO2.out (fun k hk => Below.heap_setCell _ _ _ k (fun e => by have := (HO2.out.lt k hk).1; have := HBS.out; simp at e; omega))
  · exact blk_setV HR2.out 8 _
  · exact ((PgFr.below HB1.out HBS.out.2.1).trans (PgFr.grown HG2.out (by have := HBS.out; have := HB1.out.size; omega) (fun k hk => .inl (HO1.out.lt k hk).1))).trans (PgFr.grown (grown_setV pb 8 _) (by have := HBS.out; have := HB1.out.size; have := HG2.out.size; omega) (fun k hk => .inr (by injection hk with hk; exact hk.symm)))
end Go.Proofs.YtpcalgoaccmofaaGreatDoor
