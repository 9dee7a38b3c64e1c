import Derived.Test.YtjbepnkchoaipaaGreatBase
import Derived.Test.YtjbepnkchoaipaaGreatM30
import Derived.Test.YtjbepnkchoaipaaGreatM08
import Derived.Test.YtjbepnkchoaipaaGreatM01
import Derived.Test.YtjbepnkchoaipaaGreatM28
import Derived.Test.YtjbepnkchoaipaaGreatShelf
set_option linter.unusedVariables false
set_option linter.unusedSimpArgs false
/- Bytes in a block of the call's own: what a conversion of a string lays, what is read from it, written to it, and made a string of it again. -/
namespace Go.Proofs.YtjbepnkchoaipaaGreat
open Go.RowKit
set_option maxRecDepth 100000

/-- Block A holds the bytes l from its beginning, and they may be written. -/
def BytesAt (w : World) (e A : Nat) (l : List UInt8) : Prop :=
  ∃ C m, w.heap[A]? = some (.cells C e (m, m + 1)) ∧ l.length ≤ m ∧ ∀ j (h : j < l.length), C[j]? = some (.int .u8 (l[j].toNat : Int))

theorem BytesAt.cast {w : World} {e A : Nat} {l l' : List UInt8} (h : BytesAt w e A l) (hl : l = l') : BytesAt w e A l' := hl ▸ h
theorem BytesAt.cell {w : World} {e A : Nat} {l : List UInt8} (h : BytesAt w e A l) (j : Nat) (hj : j < l.length) : w.cell? ⟨A, j, none⟩ = some (.int .u8 (l[j].toNat : Int)) := by
  obtain ⟨C, m, h1, h2, h3⟩ := h
  simp only [World.cell?, h1]
  exact h3 j hj
theorem BytesAt.frozen {w : World} {e A : Nat} {l : List UInt8} (h : BytesAt w e A l) (j : Nat) (hj : j < l.length) : w.frozen? ⟨A, j, none⟩ = false := by
  obtain ⟨C, m, h1, h2, h3⟩ := h
  simp only [World.frozen?, h1]
  have : ¬ m ≤ j := by omega
  simp [this]
theorem BytesAt.below {w w' : World} {e A B : Nat} {l : List UInt8} (h : BytesAt w e A l) (hb : Below B w w') (hA : A < B) : BytesAt w' e A l := by
  obtain ⟨C, m, h1, h2, h3⟩ := h
  exact ⟨C, m, (hb.block A hA).trans h1, h2, h3⟩
theorem BytesAt.lt {w : World} {e A : Nat} {l : List UInt8} (h : BytesAt w e A l) : A < w.heap.size := by
  obtain ⟨C, m, h1, _, _⟩ := h
  exact (Array.getElem?_eq_some_iff.1 h1).1
theorem BytesAt.same {w w' : World} {e A : Nat} {l : List UInt8} (h : BytesAt w e A l) (hb : w'.heap[A]? = w.heap[A]?) : BytesAt w' e A l := by
  obtain ⟨C, m, h1, h2, h3⟩ := h
  exact ⟨C, m, hb.trans h1, h2, h3⟩
theorem BytesAt.alloc {w : World} {e A : Nat} {l : List UInt8} (h : BytesAt w e A l) (o : Obj) : BytesAt (w.alloc o) e A l :=
  h.same (Below.heap_alloc w o A h.lt)
theorem BytesAt.setOther {w : World} {e A : Nat} {l : List UInt8} (h : BytesAt w e A l) {a : Addr} (ha : A ≠ a.block) (v : Value) : BytesAt (w.setCell a v) e A l :=
  h.same (Below.heap_setCell w a v A ha)
theorem BytesAt.set {w : World} {e A : Nat} {l : List UInt8} (h : BytesAt w e A l) (j : Nat) (hj : j < l.length) (b : UInt8) : BytesAt (w.setCell ⟨A, j, none⟩ (.int .u8 (b.toNat : Int))) e A (l.set j b) := by
  obtain ⟨C, m, h1, h2, h3⟩ := h
  have hC : j < C.size := by
    have := h3 j hj
    exact (Array.getElem?_eq_some_iff.1 this).1
  refine ⟨C.setIfInBounds j (.int .u8 (b.toNat : Int)), m, ?_, by simpa using h2, ?_⟩
  · simp only [World.setCell, Array.getElem?_modify, h1]
    simp
  · intro i hi
    rw [List.getElem_set]
    simp only [Array.getElem?_setIfInBounds]
    by_cases e : j = i
    · subst e; simp [hC]
    · simp only [e, if_false]; exact h3 i (by simpa using hi)
theorem BytesAt.str {w : World} {e A : Nat} {l : List UInt8} (h : BytesAt w e A l) {P : Program} (src dst e' : TypeId) (cap : Nat) (hs : P.underlying src = some (.slice e')) (he : P.underlying e' = some (.int .u8)) (hd : P.underlying dst = some .string) :
    (convert src dst (.slice (some ⟨A, 0, none⟩) l.length cap)).run P w = .ok (.string ⟨l.toArray⟩) w :=
  run_convert_bytes_back w src dst e' ⟨A, 0, none⟩ cap l hs he hd (fun j hj => by
    have : (⟨A, 0, none⟩ : Addr).add j = ⟨A, j, none⟩ := by unfold Addr.add; split <;> simp_all
    rw [this]; exact h.cell j hj)

/-- A string converted to bytes: a new block. -/
theorem wpList_bytes_of {P : Program} {w : World} {ops : Array Oper} {rest : List Oper} {o : Oper} {a : Act} {Q : Exit → Act → World → Prop}
    (hg : Region.wanted o (yielded ops a.tmps) = true) (x : Operand) (src dst e : TypeId) (hop : o.op = Op.convert src dst x) (s : ByteArray) (hx : a.eval x = .string s)
    (hs : P.underlying src = some .string) (hd : P.underlying dst = some (.slice e)) (he : P.underlying e = some (.int .u8))
    (hK : ∀ (c : Nat) (w' : World), s.size ≤ c → BytesAt w' e w.heap.size s.data.toList → Below w.heap.size w w' → w'.heap.size = w.heap.size + 1 → wpList P ops Q rest (a.put o.dst (.slice (some ⟨w.heap.size, 0, none⟩) s.size c)) w') :
    wpList P ops Q (o :: rest) a w := by
  refine wpList_want hg fun K' hK' => ?_
  have hrun := run_bytes_of_string (P := P) w src dst e s hs hd he
  unfold Oper.wp
  simp only [execOp, hop, hx]
  have hcap : s.size ≤ grownCap w s.size 0 e := by simp [grownCap, Question.cut]
  have hB : BytesAt (w.drew.alloc (.cells (bytesRow s (grownCap w s.size 0 e)) e ((bytesRow s (grownCap w s.size 0 e)).size, (bytesRow s (grownCap w s.size 0 e)).size + 1))) e w.heap.size s.data.toList := by
    refine ⟨bytesRow s (grownCap w s.size 0 e), (bytesRow s (grownCap w s.size 0 e)).size, (show (w.heap.push _)[w.heap.size]? = _ by simp), ?_, fun j hj => ?_⟩
    · unfold bytesRow; simp
    · rw [bytesRow_at s _ j (by simpa using hj)]; simp
  have hb : Below w.heap.size w (w.drew.alloc (.cells (bytesRow s (grownCap w s.size 0 e)) e ((bytesRow s (grownCap w s.size 0 e)).size, (bytesRow s (grownCap w s.size 0 e)).size + 1))) :=
    ((Below.refl _ _).drew).alloc (Nat.le_refl _) _
  have := hK _ _ hcap hB hb (by simp)
  simp only [Sem.run_bind, hrun, Result.andThen]
  exact hK' _ _ this

/-- Bytes converted to a string. -/
theorem wpList_str_of {P : Program} {w : World} {ops : Array Oper} {rest : List Oper} {o : Oper} {a : Act} {Q : Exit → Act → World → Prop}
    (hg : Region.wanted o (yielded ops a.tmps) = true) (x : Operand) (src dst e : TypeId) (hop : o.op = Op.convert src dst x) (A off cap : Nat) (l : List UInt8) (hx : a.eval x = .slice (some ⟨A, off, none⟩) l.length cap)
    (hs : P.underlying src = some (.slice e)) (he : P.underlying e = some (.int .u8)) (hd : P.underlying dst = some .string)
    (hc : ∀ j (h : j < l.length), w.cell? ⟨A, off + j, none⟩ = some (.int .u8 (l[j].toNat : Int)))
    (hK : wpList P ops Q rest (a.put o.dst (.string ⟨l.toArray⟩)) w) :
    wpList P ops Q (o :: rest) a w := by
  refine wpList_want hg fun K' hK' => ?_
  have hrun := run_convert_bytes_back (P := P) w src dst e ⟨A, off, none⟩ cap l hs he hd (fun j hj => by
    have : (⟨A, off, none⟩ : Addr).add j = ⟨A, off + j, none⟩ := by unfold Addr.add; split <;> simp_all
    rw [this]; exact hc j hj)
  unfold Oper.wp
  simp only [execOp, hop, hx, Sem.run_bind, hrun, Result.andThen]
  exact hK' _ _ hK
end Go.Proofs.YtjbepnkchoaipaaGreat
/- Law 31: four, records, key, number, attributes. -/
namespace Go.Proofs.YtjbepnkchoaipaaGreat
open Go.RowKit Go.Lib Go.Maps Go.WideMaps Go.Sort
set_option maxRecDepth 100000
theorem at_world {R : World → Prop} {W : World} (F : World → Prop) (hF : F W) (h : ∀ X, F X → R X) : R W := h W hF
theorem str_app (a b : J.B) : (⟨a.toArray⟩ : ByteArray) ++ ⟨b.toArray⟩ = ⟨(a ++ b).toArray⟩ := by
  apply ByteArray.ext
  rw [ByteArray.data_append]
  simp
/-- A number modulo 2^32. -/
def num32 (n : Int) : Nat := (n % 4294967296).toNat
theorem num32_nat {n : Nat} (h : n < 4294967296) : num32 n = n := by unfold num32; omega
theorem num32_lt (n : Int) : num32 n < 4294967296 := by unfold num32; omega
theorem u8_ofNat (k : Nat) (z : Int) (h : z = (k : Int) % 256) : (Value.int .u8 z) = u8 (UInt8.ofNat k) := by
  unfold u8; rw [UInt8.toNat_ofNat', h]; rfl
theorem four_any (n : Int) (w : World) :
    Calls Tryz.prog 69 #[.int .i64 n] w fun e w' => e = .returned (.slice (some ⟨w.heap.size, 0, none⟩) 4 4) ∧ w' = w.alloc (.cells (u8s (R.be4 (num32 n))).toArray 5 (0, 0)) := by
  go_enter Tryz.func69, Tryz.ntmps69
  go_wp2
  go_ret
  refine ⟨rfl, ?_⟩
  rw [u8_ofNat (num32 n / 16777216) _ (by unfold num32; omega), u8_ofNat (num32 n / 65536) _ (by unfold num32; omega), u8_ofNat (num32 n / 256) _ (by unfold num32; omega), u8_ofNat (num32 n) (n % 256) (by unfold num32; omega)]
  rfl
theorem records_any (nm : J.B) (w : World) (hn : nm.length ≤ 1000) :
    Calls Tryz.prog 76 #[.string ⟨nm.toArray⟩] w fun e w' => e = .returned (.string ⟨(R.recs nm).toArray⟩) ∧ w = w' := by
  go_enter Tryz.func76, Tryz.ntmps76
  go_wp2
  go_ret
  exact ⟨by rw [str_app]; rfl, rfl⟩
theorem cell_u8s (w : World) (l : List UInt8) (t : TypeId) (fr : Nat × Nat) (j : Nat) (h : j < l.length) : (w.alloc (.cells (u8s l).toArray t fr)).cell? ⟨w.heap.size, j, none⟩ = some (u8 l[j]) := by
  unfold World.cell?
  rw [heap_alloc_new]
  simp [u8s, h]
theorem key_any (nm : J.B) (n : Int) (w : World) (hn : nm.length ≤ 1000) :
    Calls Tryz.prog 66 #[.string ⟨nm.toArray⟩, .int .i64 n] w fun e w' => e = .returned (.string ⟨(R.key nm (num32 n)).toArray⟩) ∧ Below w.heap.size w w' := by
  have hc : (convert 37 9 (.slice (some ⟨w.heap.size, 0, none⟩) 4 4)).run Tryz.prog (w.alloc (.cells (u8s (R.be4 (num32 n))).toArray 5 (0, 0))) = .ok (.string ⟨(R.be4 (num32 n)).toArray⟩) (w.alloc (.cells (u8s (R.be4 (num32 n))).toArray 5 (0, 0))) :=
    run_convert_bytes_back _ 37 9 5 ⟨w.heap.size, 0, none⟩ 4 (R.be4 (num32 n)) Tryz.underlying37 Tryz.underlying5 Tryz.underlying9 (fun j hj => by
      have : (⟨w.heap.size, 0, none⟩ : Addr).add j = ⟨w.heap.size, j, none⟩ := by unfold Addr.add; split <;> simp_all
      rw [this]; exact cell_u8s w _ _ _ j hj)
  have hr : (R.recs nm).length = nm.length + 2 := by simp [R.recs]
  have hb : (R.be4 (num32 n)).length = 4 := rfl
  go_enter Tryz.func66, Tryz.ntmps66
  go_wp2_with fail
  refine (records_any nm w hn).mono ?_
  rintro e w1 ⟨rfl, rfl⟩
  go_wp2_with fail
  refine (four_any n w).mono ?_
  rintro e w1 ⟨rfl, rfl⟩
  go_wp2
  go_ret
  exact ⟨by rw [str_app]; rfl, (Below.refl _ w).alloc (Nat.le_refl _) _⟩
theorem trim_key (nm : J.B) (n : Nat) : Lib.trimPrefix (R.key nm n) (R.recs nm) = R.be4 n := by
  unfold Lib.trimPrefix
  rw [if_pos (by unfold Lib.hasPrefix R.key; simp)]
  unfold R.key
  simp
theorem i64_or (a b : Nat) (ha : a < 4611686018427387904) (hb : b < 4611686018427387904) : bits .or .i64 (a : Int) (b : Int) = ((a ||| b : Nat) : Int) := by
  have hx : a ||| b < 2 ^ 62 := Nat.or_lt_two_pow (by omega) (by omega)
  have h1 : (BitVec.ofInt 64 (a : Int)).toNat = a := by
    rw [BitVec.ofInt_natCast, BitVec.toNat_ofNat]; exact Nat.mod_eq_of_lt (by omega)
  have h2 : (BitVec.ofInt 64 (b : Int)).toNat = b := by
    rw [BitVec.ofInt_natCast, BitVec.toNat_ofNat]; exact Nat.mod_eq_of_lt (by omega)
  show IntKind.i64.wrap ((BitVec.ofInt 64 (a : Int) ||| BitVec.ofInt 64 (b : Int)).toNat : Int) = _
  rw [BitVec.toNat_or, h1, h2]
  rw [IntKind.wrap_i64]; omega
theorem or_low (x y i : Nat) (h : y < 2 ^ i) : (x * 2 ^ i) ||| y = x * 2 ^ i + y := by
  rw [← Nat.shiftLeft_eq, Nat.shiftLeft_add_eq_or_of_lt h]
theorem i64_or_low (x y i : Nat) (h : y < 2 ^ i) (hx : x * 2 ^ i < 4611686018427387904) (hy : y < 4611686018427387904) : bits .or .i64 ((x * 2 ^ i : Nat) : Int) (y : Int) = ((x * 2 ^ i + y : Nat) : Int) := by
  rw [i64_or _ _ hx hy, or_low x y i h]
theorem wrap_small (x : Nat) (h : x < 4611686018427387904) : IntKind.i64.wrap (x : Int) = x := by rw [IntKind.wrap_i64]; omega
theorem four_val (a b c d : Nat) (ha : a < 256) (hb : b < 256) (hc : c < 256) (hd : d < 256) :
    bits .or .i64 (bits .or .i64 (bits .or .i64 (IntKind.i64.wrap (IntKind.i64.wrap (a : Int) * 16777216)) (IntKind.i64.wrap (IntKind.i64.wrap (b : Int) * 65536))) (IntKind.i64.wrap (IntKind.i64.wrap (c : Int) * 256))) (IntKind.i64.wrap (d : Int)) = ((a * 16777216 + b * 65536 + c * 256 + d : Nat) : Int) := by
  rw [wrap_small a (by omega), wrap_small b (by omega), wrap_small c (by omega), wrap_small d (by omega)]
  rw [show (a : Int) * 16777216 = ((a * 256 * 2 ^ 16 : Nat) : Int) by omega, show (b : Int) * 65536 = ((b * 65536 : Nat) : Int) by omega, show (c : Int) * 256 = ((c * 256 : Nat) : Int) by omega]
  rw [wrap_small (a * 256 * 2 ^ 16) (by omega), wrap_small (b * 65536) (by omega), wrap_small (c * 256) (by omega)]
  have e1 : bits .or .i64 ((a * 256 * 2 ^ 16 : Nat) : Int) ((b * 65536 : Nat) : Int) = (((a * 256 + b) * 2 ^ 16 : Nat) : Int) := by
    rw [i64_or _ _ (by omega) (by omega), show a * 256 * 2 ^ 16 = a * 2 ^ 24 by omega, or_low a (b * 65536) 24 (by omega)]
    omega
  have e2 : bits .or .i64 (((a * 256 + b) * 2 ^ 16 : Nat) : Int) ((c * 256 : Nat) : Int) = (((a * 65536 + b * 256 + c) * 2 ^ 8 : Nat) : Int) := by
    rw [i64_or_low _ _ 16 (by omega) (by omega) (by omega)]
    omega
  rw [e1, e2, i64_or_low _ _ 8 (by omega) (by omega) (by omega)]
  omega
theorem number_any (nm : J.B) (n : Nat) (w : World) (hn : n ≤ 65536) (hl : nm.length ≤ 1000) :
    Calls Tryz.prog 77 #[.string ⟨nm.toArray⟩, .string ⟨(R.key nm n).toArray⟩] w fun e w' => e = .returned (.int .i64 n) ∧ Below w.heap.size w w' := by
  have HT := Lib.hid (Tryz.strings_TrimPrefix ⟨(R.key nm n).toArray⟩ ⟨(R.recs nm).toArray⟩ w)
  have e1 : (⟨(R.key nm n).toArray⟩ : ByteArray).data.toList = R.key nm n := rfl
  have e2 : (⟨(R.recs nm).toArray⟩ : ByteArray).data.toList = R.recs nm := rfl
  rw [e1, e2, trim_key] at HT
  generalize (⟨(R.key nm n).toArray⟩ : ByteArray) = k at HT ⊢
  clear e1 e2
  go_enter Tryz.func77, Tryz.ntmps77
  go_wp2_with fail
  refine (records_any nm w hl).mono ?_
  rintro e w1 ⟨rfl, rfl⟩
  go_wp2_with fail
  refine HT.out.mono ?_
  rintro e w1 ⟨rfl, rfl⟩
  clear HT
  go_wp2_with (refine wpList_bytes_of rfl _ 9 37 5 rfl ⟨(R.be4 n).toArray⟩ rfl Tryz.underlying9 Tryz.underlying37 Tryz.underlying5 ?_)
  intro c w2 hc2 hB hb hsz
  have hs : (R.be4 n).length = 4 := rfl
  rw [hs] at hc2 ⊢
  have hv := R.val4_be4 (n := n) (by omega)
  have hcs : ∃ a b c d : Nat, a < 256 ∧ b < 256 ∧ c < 256 ∧ d < 256 ∧ a * 16777216 + b * 65536 + c * 256 + d = n ∧ w2.cell? ⟨w1.heap.size, 0, none⟩ = some (.int .u8 a) ∧ w2.cell? ⟨w1.heap.size, 1, none⟩ = some (.int .u8 b) ∧ w2.cell? ⟨w1.heap.size, 2, none⟩ = some (.int .u8 c) ∧ w2.cell? ⟨w1.heap.size, 3, none⟩ = some (.int .u8 d) :=
    ⟨_, _, _, _, UInt8.toNat_lt _, UInt8.toNat_lt _, UInt8.toNat_lt _, UInt8.toNat_lt _, hv, hB.cell 0 (by show 0 < 4; omega), hB.cell 1 (by show 1 < 4; omega), hB.cell 2 (by show 2 < 4; omega), hB.cell 3 (by show 3 < 4; omega)⟩
  obtain ⟨a0, a1, a2, a3, l0, l1, l2, l3, hv, c0, c1, c2, c3⟩ := hcs
  have HB := Lib.hid hb
  have HV := Lib.hid (four_val a0 a1 a2 a3 l0 l1 l2 l3)
  rw [hv] at HV
  clear hB hs hb hsz l0 l1 l2 l3 hv
  go_upto_region 4 with fail
  refine wp_region_pm 21 (.rd 0 (.rd 1 (.rd 2 (.rd 3 (.rd 4 (.rd 5 (.rd 6 (.rd 7 (.rd 8 (.rd 9 (.rd 10 (.rd 11 (.rd 12 (.rd 13 (.rd 14 (.rd 15 (.rd 16 (.rd 17 (.rd 18 (.rd 19 (.rd 20 .fin))))))))))))))))))))) (fun w' => ∀ o, w'.cell? ⟨w1.heap.size, o, none⟩ = w2.cell? ⟨w1.heap.size, o, none⟩) (by kernel_rfl) (by kernel_rfl) (fun c a d v w h => by cases d <;> exact h) (fun _ => rfl) ?_
  repeat
    refine wpPm_read (v := ?_) (by rfl) (by rfl) (fun w' hS => ?_) (fun K hK => ?_)
    rotate_left
    · have c0 := (hS _).trans c0
      have c1 := (hS _).trans c1
      have c2 := (hS _).trans c2
      have c3 := (hS _).trans c3
      clear hS
      go_simp
      try with_reducible rfl
    go_simp
    refine hK _ ?_
    clear hK K
  show wpList _ _ _ _ _ _
  have hv := HV.out
  have hnn : ¬ (65536 : Int) < (n : Int) := by omega
  go_wp2
  go_ret
  exact ⟨rfl, HB.out.drew⟩
theorem attr_own (w : World) (nm : J.B) (rel : Bool) (size : Nat) (k : UInt8) : ((((w.alloc (.cells #[.string ⟨nm.toArray⟩, .bool rel, .int .i64 size] 32)).alloc (.cells #[u8 k] 5)).alloc (.cells (u8s (R.be4 size)).toArray 5)).ownsRow w.heap.size 5 1 (.slice (some ⟨w.heap.size + 1, 0, none⟩) 1 1) 1 (u8s [k])) := by
  have := (World.ownsRow_lit (base := w.heap.size) (e := 5) (size := 1) (w.alloc (.cells #[.string ⟨nm.toArray⟩, .bool rel, .int .i64 size] 32)) #[u8 k] 1 (by simp) (by decide) rfl).alloc (.cells (u8s (R.be4 size)).toArray 5)
  have e : (w.alloc (.cells #[.string ⟨nm.toArray⟩, .bool rel, .int .i64 size] 32)).heap.size = w.heap.size + 1 := by simp
  rw [e] at this
  exact this
theorem attr_by (X : World) (size : Nat) : By (X.alloc (.cells (u8s (R.be4 size)).toArray 5)) NoM (some ⟨X.heap.size, 0, none⟩) 4 (R.be4 size) :=
  ⟨rfl, fun _ => ⟨_, _, rfl, by simp, fun h => h, fun j hj => by rw [Nat.zero_add]; exact cell_u8s X _ _ _ j hj⟩⟩
theorem attributes_any (nm : J.B) (rel : Bool) (size : Nat) (w : World) (hs : size < 4294967296) :
    Calls Tryz.prog 35 #[.agg #[.string ⟨nm.toArray⟩, .bool rel, .int .i64 size]] w fun e w' => ∃ v, e = .returned v ∧ w'.ownsRow w.heap.size 5 1 v 5 (u8s (R.attr rel size)) ∧ Below w.heap.size w w' := by
  have HO := Lib.hid (fun k => attr_own w nm rel size k)
  have HY := Lib.hid (fun X => attr_by X size)
  cases rel
  · go_enter Tryz.func35, Tryz.ntmps35
    go_wp2_with fail
    refine (four_any _ _).mono ?_
    rintro e w1 ⟨rfl, rfl⟩
    rw [num32_nat hs]
    refine at_world (fun X => X.ownsRow w.heap.size 5 1 (.slice (some ⟨w.heap.size + 1, 0, none⟩) 1 1) 1 (u8s [0]) ∧ By X NoM (some ⟨_, 0, none⟩) 4 (R.be4 size) ∧ Below w.heap.size w X) ⟨HO.out 0, HY.out _, ((Below.refl _ w).alloc (Nat.le_refl _) _).alloc (by simp) _ |>.alloc (by simp; omega) _⟩ ?_
    rintro X ⟨ho, hy, hb⟩
    go_wp2_with (at_builtin; refine wpList_app_by rfl _ _ rfl w.heap.size _ 1 [0] rfl ho NoM _ 4 4 (R.be4 size) rfl hy (by omega) hb.size ?_)
    intro v' w' hown hg _ _
    have hb := hb.grown hg hb.size (fun j hj => by injection hj with hj; subst hj; simp)
    clear ho hy
    have HB := Lib.hid hb
    have HW := Lib.hid hown
    clear hb hown hg
    go_wp2
    go_ret
    exact ⟨_, rfl, HW.out, HB.out⟩
  · go_enter Tryz.func35, Tryz.ntmps35
    go_wp2_with fail
    refine (four_any _ _).mono ?_
    rintro e w1 ⟨rfl, rfl⟩
    rw [num32_nat hs]
    refine at_world (fun X => X.ownsRow w.heap.size 5 1 (.slice (some ⟨w.heap.size + 1, 0, none⟩) 1 1) 1 (u8s [1]) ∧ By X NoM (some ⟨_, 0, none⟩) 4 (R.be4 size) ∧ Below w.heap.size w X) ⟨HO.out 1, HY.out _, ((Below.refl _ w).alloc (Nat.le_refl _) _).alloc (by simp) _ |>.alloc (by simp; omega) _⟩ ?_
    rintro X ⟨ho, hy, hb⟩
    go_wp2_with (at_builtin; refine wpList_app_by rfl _ _ rfl w.heap.size _ 1 [1] rfl ho NoM _ 4 4 (R.be4 size) rfl hy (by omega) hb.size ?_)
    intro v' w' hown hg _ _
    have hb := hb.grown hg hb.size (fun j hj => by injection hj with hj; subst hj; simp)
    clear ho hy
    have HB := Lib.hid hb
    have HW := Lib.hid hown
    clear hb hown hg
    go_wp2
    go_ret
    exact ⟨_, rfl, HW.out, HB.out⟩
end Go.Proofs.YtjbepnkchoaipaaGreat
