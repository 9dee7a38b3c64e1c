import Derived.Test.YtjbepnkchoaipaaGreatM08
set_option linter.unusedVariables false
set_option linter.unusedSimpArgs false
/- Law 31: a store is kept where a block turns that has no two bytes side by side, is no block of bytes, and is none of the store's own. -/
namespace Go.Proofs.YtjbepnkchoaipaaGreat
open Go.RowKit Go.Lib Go.Maps Go.WideMaps Go.Sort
set_option maxRecDepth 100000
/-- A block that is no bytes: no two of its cells that follow one another are bytes. -/
def NoBy (w : World) (q : Nat) : Prop := (∀ o (u v : UInt8), ¬ (w.cell? ⟨q, o, none⟩ = some (u8 u) ∧ w.cell? ⟨q, o + 1, none⟩ = some (u8 v))) ∧ ¬ U8 w q
/-- Nothing old has turned but, at most, a block without bytes that is not in M. -/
structure Oth (M : Nat → Prop) (w w' : World) : Prop where
  os : w'.os = w.os
  tape : w'.tape = w.tape
  output : w'.output = w.output
  size : w.heap.size ≤ w'.heap.size
  keep : ∀ k, k < w.heap.size → M k → w'.heap[k]? = w.heap[k]?
  bytes : ∀ k, k < w.heap.size → ¬ NoBy w k → w'.heap[k]? = w.heap[k]?
theorem Oth.of_grown {M : Nat → Prop} {w w' : World} {row : Option Nat} (hg : w.grownBy w' row) (h : ∀ q, row = some q → ¬ M q ∧ NoBy w q) : Oth M w w' :=
  ⟨hg.os, hg.tape, hg.output, hg.size, fun k hk hm => hg.block k hk (fun e => (h k e.symm).1 hm), fun k hk hn => hg.block k hk (fun e => hn (h k e.symm).2)⟩
section
variable {w w' : World} {M : Nat → Prop} {v : Value} {l : List UInt8}
theorem By.othU {b o n : Nat} (h : By w M (some ⟨b, o, none⟩) n l) (hu : U8 w b) (ho : Oth M w w') : By w' M (some ⟨b, o, none⟩) n l :=
  ⟨h.1, fun hn => by
    obtain ⟨b', o', e, hb, hM, hc⟩ := h.2 hn
    injection e with e; injection e with e1 e2 e3; subst e1 e2
    have hk : w'.heap[b]? = w.heap[b]? := ho.bytes b hb (fun hno => hno.2 hu)
    exact ⟨b, o, rfl, Nat.lt_of_lt_of_le hb ho.size, hM, fun j hj => (World.cell?_of_block hk).trans (hc j hj)⟩⟩
theorem By.oth {A : Option Addr} {n : Nat} (h : By w M A n l) (h1 : l.length ≠ 1) (ho : Oth M w w') : By w' M A n l :=
  ⟨h.1, fun hn => by
    obtain ⟨b, o, e, hb, hM, hc⟩ := h.2 hn
    have hl := h.1
    have hk : w'.heap[b]? = w.heap[b]? := ho.bytes b hb (fun hno => hno.1 (o + 0) _ _ ⟨hc 0 (by omega), hc 1 (by omega)⟩)
    exact ⟨b, o, e, Nat.lt_of_lt_of_le hb ho.size, hM, fun j hj => (World.cell?_of_block hk).trans (hc j hj)⟩⟩
theorem Slc.oth (h : Slc w M v l) (ho : Oth M w w') : Slc w' M v l := by
  rcases h with h | ⟨b, o, e, h1, h2, hm, h3⟩
  · exact .inl h
  · exact .inr ⟨b, o, e, h1, h2.same ho.size (ho.bytes b h2.1 (fun hn => hn.2 h2)), hm, h3.othU h2 ho⟩
theorem Oth.sub {M2 : Nat → Prop} (ho : Oth M w w') (h : ∀ k, M2 k → M k) : Oth M2 w w' := ⟨ho.os, ho.tape, ho.output, ho.size, fun k hk hm => ho.keep k hk (h k hm), ho.bytes⟩
theorem Sl.oth (h : Sl w M v l) (h1 : l.length ≠ 1) (ho : Oth M w w') : Sl w' M v l := by
  rcases h with h | ⟨b, o, c, e, h0, h2, h3⟩
  · exact .inl h
  · exact .inr ⟨b, o, c, e, h0, Nat.lt_of_lt_of_le h2 ho.size, h3.oth h1 ho⟩
theorem MapR.oth {b : Nat} {m : List (J.B × J.B)} (h : MapR w M b m) (ho : Oth M w w') (hb : M b) : MapR w' M b m := by
  have hl := h.lt
  obtain ⟨D, h1, h2, h3, h4⟩ := h
  refine ⟨D, ?_, h2, h3, fun k l hk => ?_⟩
  · obtain ⟨es, clock, g1, g2⟩ := h1
    exact ⟨es, clock, (ho.keep b hl hb).trans g1, g2⟩
  · obtain ⟨v, d, g1, g2, g3⟩ := h4 k l hk
    exact ⟨v, d, g1, g2, g3.oth ho⟩
theorem ChRow.oth {base : Nat} {L : List J.Chg} (h : ChRow w M base v L) (ho : Oth M w w') (hm : ∀ k, v.ownBlock = some k → M k) : ChRow w' M base v L := by
  obtain ⟨vs, h1, h2, h3⟩ := h
  refine ⟨vs, h1, own_same h2 (fun k e => ho.keep k (h2.lt k e).2 (hm k e)), fun i hi hi' => ?_⟩
  have := h3 i hi hi'
  exact this.oth ⟨ho.os, ho.tape, ho.output, ho.size, fun k hk h => ho.keep k hk (h.elim id (hm k)), ho.bytes⟩
theorem WrRow.oth {L : List J.Wr} (h : WrRow w M v L) (hl : ∀ x ∈ L, x.bs.length ≠ 1) (ho : Oth M w w') : WrRow w' M v L := by
  obtain ⟨vs, h1, h2, h3, h4⟩ := h
  exact ⟨vs, h1, own_same h2 (fun k e => ho.keep k (h2.lt k e).2 (h3 k e)), h3, fun i hi hi' => (h4 i hi hi').oth (hl _ (List.getElem_mem hi)) ho⟩
theorem Area.oth (h : Area w M v l) (ho : Oth M w w') : Area w' M v l := by
  rcases h with ⟨h1, h2⟩ | h
  · exact .inl ⟨own_same h1 (fun k e => ho.keep k (h1.lt k e).2 (h2 k e)), h2⟩
  · exact .inr (h.oth ho)
end
/-- No head and no write of a store is one byte. -/
structure J.Two (s : J.St) : Prop where
  wr : ∀ x ∈ s.writes, x.bs.length ≠ 1
  h0 : s.disk.h0.length ≠ 1
  h1 : s.disk.h1.length ≠ 1
theorem Parts.oth {w w' : World} {M : Nat → Prop} {s : J.St} {bn : Nat} {bw : Option Nat} {ch wr b0 b1 b2 b3 d0 d1 d2 d3 : Value} (h : Parts w M s bn bw ch wr b0 b1 b2 b3 d0 d1 d2 d3) (ht : J.Two s) (ho : Oth M w w') : Parts w' M s bn bw ch wr b0 b1 b2 b3 d0 d1 d2 d3 := by
  refine ⟨h.now.oth ho h.mbn, h.mbn, ?_, h.chs.oth ho h.mch, h.mch, h.wrs.oth ht.wr ho, h.f0.oth ho, h.f1.oth ho, h.f2.oth ho, h.f3.oth ho, h.e0.oth ht.h0 ho, h.e1.oth ht.h1 ho, h.e2.oth ho, h.e3.oth ho, h.dd⟩
  cases bw with
  | none => exact h.was
  | some b =>
    obtain ⟨g1, g2, g3, g4⟩ := h.was
    exact ⟨g1, g2.oth ho g3, g3, g4⟩
theorem StoreR.oth {w w' : World} {p : Nat} {M : Nat → Prop} {s : J.St} (h : StoreR w p M s) (ht : J.Two s) (ho : Oth M w w') : StoreR w' p M s := by
  obtain ⟨bn, bw, ch, wr, b0, b1, b2, b3, d0, d1, d2, d3, h1, h2, h3, h4⟩ := h
  exact ⟨bn, bw, ch, wr, b0, b1, b2, b3, d0, d1, d2, d3, (ho.keep p (Array.getElem?_eq_some_iff.1 h1).1 h2).trans h1, h2, h3.oth ht ho, h4⟩
end Go.Proofs.YtjbepnkchoaipaaGreat
