/- Bytes in a block of the call's own: what a conversion of a string lays, what is read from it, written to it, and made a string of it again. -/
import Derived.Test.YtphofgokcfdobaaDoorBase
namespace Go.Proofs.YtphofgokcfdobaaDoor
open Go.RowKit
set_option maxRecDepth 100000

/-- Block A holds the bytes l from its beginning, and they may be written. -/
def BytesAt (w : World) (e A : Nat) (l : List UInt8) : Prop :=
  ∃ C m, w.heap[A]? = some (.cells C e (m, m + 1)) ∧ l.length ≤ m ∧ ∀ j (h : j < l.length), C[j]? = some (.int .u8 (l[j].toNat : Int))

theorem BytesAt.cast {w : World} {e A : Nat} {l l' : List UInt8} (h : BytesAt w e A l) (hl : l = l') : BytesAt w e A l' := hl ▸ h
theorem BytesAt.cell {w : World} {e A : Nat} {l : List UInt8} (h : BytesAt w e A l) (j : Nat) (hj : j < l.length) : w.cell? ⟨A, j, none⟩ = some (.int .u8 (l[j].toNat : Int)) := by
  obtain ⟨C, m, h1, h2, h3⟩ := h
  simp only [World.cell?, h1]
  exact h3 j hj
theorem BytesAt.frozen {w : World} {e A : Nat} {l : List UInt8} (h : BytesAt w e A l) (j : Nat) (hj : j < l.length) : w.frozen? ⟨A, j, none⟩ = false := by
  obtain ⟨C, m, h1, h2, h3⟩ := h
  simp only [World.frozen?, h1]
  have : ¬ m ≤ j := by omega
  simp [this]
theorem BytesAt.below {w w' : World} {e A B : Nat} {l : List UInt8} (h : BytesAt w e A l) (hb : Below B w w') (hA : A < B) : BytesAt w' e A l := by
  obtain ⟨C, m, h1, h2, h3⟩ := h
  exact ⟨C, m, (hb.block A hA).trans h1, h2, h3⟩
theorem BytesAt.lt {w : World} {e A : Nat} {l : List UInt8} (h : BytesAt w e A l) : A < w.heap.size := by
  obtain ⟨C, m, h1, _, _⟩ := h
  exact (Array.getElem?_eq_some_iff.1 h1).1
theorem BytesAt.same {w w' : World} {e A : Nat} {l : List UInt8} (h : BytesAt w e A l) (hb : w'.heap[A]? = w.heap[A]?) : BytesAt w' e A l := by
  obtain ⟨C, m, h1, h2, h3⟩ := h
  exact ⟨C, m, hb.trans h1, h2, h3⟩
theorem BytesAt.alloc {w : World} {e A : Nat} {l : List UInt8} (h : BytesAt w e A l) (o : Obj) : BytesAt (w.alloc o) e A l :=
  h.same (Below.heap_alloc w o A h.lt)
theorem BytesAt.setOther {w : World} {e A : Nat} {l : List UInt8} (h : BytesAt w e A l) {a : Addr} (ha : A ≠ a.block) (v : Value) : BytesAt (w.setCell a v) e A l :=
  h.same (Below.heap_setCell w a v A ha)
theorem BytesAt.set {w : World} {e A : Nat} {l : List UInt8} (h : BytesAt w e A l) (j : Nat) (hj : j < l.length) (b : UInt8) : BytesAt (w.setCell ⟨A, j, none⟩ (.int .u8 (b.toNat : Int))) e A (l.set j b) := by
  obtain ⟨C, m, h1, h2, h3⟩ := h
  have hC : j < C.size := by
    have := h3 j hj
    exact (Array.getElem?_eq_some_iff.1 this).1
  refine ⟨C.setIfInBounds j (.int .u8 (b.toNat : Int)), m, ?_, by simpa using h2, ?_⟩
  · simp only [World.setCell, Array.getElem?_modify, h1]
    simp
  · intro i hi
    rw [List.getElem_set]
    simp only [Array.getElem?_setIfInBounds]
    by_cases e : j = i
    · subst e; simp [hC]
    · simp only [e, if_false]; exact h3 i (by simpa using hi)
theorem BytesAt.str {w : World} {e A : Nat} {l : List UInt8} (h : BytesAt w e A l) {P : Program} (src dst e' : TypeId) (cap : Nat) (hs : P.underlying src = some (.slice e')) (he : P.underlying e' = some (.int .u8)) (hd : P.underlying dst = some .string) :
    (convert src dst (.slice (some ⟨A, 0, none⟩) l.length cap)).run P w = .ok (.string ⟨l.toArray⟩) w :=
  run_convert_bytes_back w src dst e' ⟨A, 0, none⟩ cap l hs he hd (fun j hj => by
    have : (⟨A, 0, none⟩ : Addr).add j = ⟨A, j, none⟩ := by unfold Addr.add; split <;> simp_all
    rw [this]; exact h.cell j hj)

/-- A string converted to bytes: a new block. -/
theorem wpList_bytes_of {P : Program} {w : World} {ops : Array Oper} {rest : List Oper} {o : Oper} {a : Act} {Q : Exit → Act → World → Prop}
    (hg : Region.wanted o (yielded ops a.tmps) = true) (x : Operand) (src dst e : TypeId) (hop : o.op = Op.convert src dst x) (s : ByteArray) (hx : a.eval x = .string s)
    (hs : P.underlying src = some .string) (hd : P.underlying dst = some (.slice e)) (he : P.underlying e = some (.int .u8))
    (hK : ∀ (c : Nat) (w' : World), s.size ≤ c → BytesAt w' e w.heap.size s.data.toList → Below w.heap.size w w' → w'.heap.size = w.heap.size + 1 → wpList P ops Q rest (a.put o.dst (.slice (some ⟨w.heap.size, 0, none⟩) s.size c)) w') :
    wpList P ops Q (o :: rest) a w := by
  refine wpList_want hg fun K' hK' => ?_
  have hrun := run_bytes_of_string (P := P) w src dst e s hs hd he
  unfold Oper.wp
  simp only [execOp, hop, hx]
  have hcap : s.size ≤ grownCap w s.size 0 e := by simp [grownCap, Question.cut]
  have hB : BytesAt (w.drew.alloc (.cells (bytesRow s (grownCap w s.size 0 e)) e ((bytesRow s (grownCap w s.size 0 e)).size, (bytesRow s (grownCap w s.size 0 e)).size + 1))) e w.heap.size s.data.toList := by
    refine ⟨bytesRow s (grownCap w s.size 0 e), (bytesRow s (grownCap w s.size 0 e)).size, (show (w.heap.push _)[w.heap.size]? = _ by simp), ?_, fun j hj => ?_⟩
    · unfold bytesRow; simp
    · rw [bytesRow_at s _ j (by simpa using hj)]; simp
  have hb : Below w.heap.size w (w.drew.alloc (.cells (bytesRow s (grownCap w s.size 0 e)) e ((bytesRow s (grownCap w s.size 0 e)).size, (bytesRow s (grownCap w s.size 0 e)).size + 1))) :=
    ((Below.refl _ _).drew).alloc (Nat.le_refl _) _
  have := hK _ _ hcap hB hb (by simp)
  simp only [Sem.run_bind, hrun, Result.andThen]
  exact hK' _ _ this

/-- Bytes converted to a string. -/
theorem wpList_str_of {P : Program} {w : World} {ops : Array Oper} {rest : List Oper} {o : Oper} {a : Act} {Q : Exit → Act → World → Prop}
    (hg : Region.wanted o (yielded ops a.tmps) = true) (x : Operand) (src dst e : TypeId) (hop : o.op = Op.convert src dst x) (A off cap : Nat) (l : List UInt8) (hx : a.eval x = .slice (some ⟨A, off, none⟩) l.length cap)
    (hs : P.underlying src = some (.slice e)) (he : P.underlying e = some (.int .u8)) (hd : P.underlying dst = some .string)
    (hc : ∀ j (h : j < l.length), w.cell? ⟨A, off + j, none⟩ = some (.int .u8 (l[j].toNat : Int)))
    (hK : wpList P ops Q rest (a.put o.dst (.string ⟨l.toArray⟩)) w) :
    wpList P ops Q (o :: rest) a w := by
  refine wpList_want hg fun K' hK' => ?_
  have hrun := run_convert_bytes_back (P := P) w src dst e ⟨A, off, none⟩ cap l hs he hd (fun j hj => by
    have : (⟨A, off, none⟩ : Addr).add j = ⟨A, off + j, none⟩ := by unfold Addr.add; split <;> simp_all
    rw [this]; exact hc j hj)
  unfold Oper.wp
  simp only [execOp, hop, hx, Sem.run_bind, hrun, Result.andThen]
  exact hK' _ _ hK
end Go.Proofs.YtphofgokcfdobaaDoor
