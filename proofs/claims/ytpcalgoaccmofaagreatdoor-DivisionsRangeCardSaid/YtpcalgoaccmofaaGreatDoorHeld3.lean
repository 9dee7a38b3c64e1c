/- As Held, for a region in which two that write may come up at once: a plan that parts there. -/
import Derived.Test.YtpcalgoaccmofaaGreatDoorHeld
namespace Go.Proofs.YtpcalgoaccmofaaGreatDoor
open Go
/-- A plan: reads, what writes, and where two that write may come up. -/
inductive Pl where
  | fin
  | rd (i : Nat) (p : Pl)
  | wr (i : Nat) (p : Pl)
  | two (i : Nat) (p : Pl) (j : Nat) (q : Pl)
def Pl.len : Pl → Nat
  | .fin => 0
  | .rd _ p => p.len + 1
  | .wr _ p => p.len + 1
  | .two _ p _ _ => p.len + 1
section
variable {P : Program} {ops : Array Oper} {Q : Exit → Act → World → Prop} {md : Region.Mode} {S : World → Prop}
def plB (md : Region.Mode) (ops : Array Oper) (n g : Nat) : Pl → Array Bool → Bool
  | .fin, listed => Region.seqB md ops g n listed
  | .rd i p, listed => decide (i < n) && (Region.ready md ops listed).contains i && Region.free md ops listed i && plB md ops n g p (listed.setIfInBounds i true)
  | .wr i p, listed => decide (i < n) && decide (Region.ready md ops listed = [i]) && plB md ops n g p (listed.setIfInBounds i true)
  | .two i p j q, listed => decide (i < n) && decide (j < n) && decide (Region.ready md ops listed = [i, j]) && decide (p.len = q.len) && plB md ops n g p (listed.setIfInBounds i true) && plB md ops n g q (listed.setIfInBounds j true)
def wpPl (P : Program) (ops : Array Oper) (Q : Exit → Act → World → Prop) (S : World → Prop) (L : Act → World → Prop) : Pl → Act → World → Prop
  | .fin, a, w => L a w
  | .rd i p, a, w => ∃ o v, ops[i]? = some o ∧ YieldsIf P ops S o v a ∧ wpPl P ops Q S L p (a.put o.dst v) w
  | .wr i p, a, w => wpOp P ops Q i (fun a' w' => S w' ∧ wpPl P ops Q S L p a' w') a w
  | .two i p j q, a, w => wpOp P ops Q i (fun a' w' => S w' ∧ wpPl P ops Q S L p a' w') a w ∧ wpOp P ops Q j (fun a' w' => S w' ∧ wpPl P ops Q S L q a' w') a w
theorem wpAnyT_pl {n : Nat} {tl : List Oper} (hsel : Region.noSelect ops = true) (hs : Region.sinkB md ops n = true) (hc : Region.chainB md ops n = true) (hn : n < ops.size) (hQ : ∀ c a d v w, Q (.panic c) (Act.put a d v) w → Q (.panic c) a w) (htl : ∀ j, tl[j]? = ops[n + j]?) :
    ∀ (plan : Pl) (listed : Array Bool) (a : Act) (w : World), HeadInv md ops n listed → plB md ops n tl.length plan listed = true → S w →
      wpPl P ops Q S (fun a w => wpList P ops Q tl a w) plan a w → wpAnyT P md ops Q S n (plan.len + tl.length) listed a w
  | .fin, listed, a, w, inv, hB, hS, h => by
    rw [Pl.len, Nat.zero_add]
    exact wpAnyT_of_seq tl n listed a w (Nat.le_refl _) htl hB h
  | .rd i t, listed, a, w, inv, hB, hS, h => by
    simp only [plB, Bool.and_eq_true, decide_eq_true_eq] at hB
    obtain ⟨⟨⟨hin, hr⟩, hf⟩, hB'⟩ := hB
    obtain ⟨o, v, ho, hy, hk⟩ := h
    have hr' : i ∈ Region.ready md ops listed := by simpa using hr
    rw [Pl.len, show t.len + 1 + tl.length = (t.len + tl.length) + 1 by omega]
    exact wpAnyT_first ho (Region.noSelect_spec hsel) (fun c a w h => hQ c a _ _ w h) hs hc hn hin _ listed a w inv (Region.free_spec ho hf) hr' hy hS
      (wpAnyT_pl hsel hs hc hn hQ htl t _ _ w (inv.set hr' hin) hB' hS hk)
  | .wr i t, listed, a, w, inv, hB, hS, h => by
    simp only [plB, Bool.and_eq_true, decide_eq_true_eq] at hB
    obtain ⟨⟨hin, hone⟩, hB'⟩ := hB
    have hr' : i ∈ Region.ready md ops listed := by rw [hone]; simp
    rw [Pl.len, show t.len + 1 + tl.length = (t.len + tl.length) + 1 by omega]
    refine ⟨fun h1 => (by rw [h1] at hr'; cases hr'), fun j hj => ?_⟩
    rw [hone] at hj
    obtain rfl : j = i := by simpa using hj
    exact wpOp_mono (fun a' w' h' => ⟨fun _ => h'.1, wpAnyT_pl hsel hs hc hn hQ htl t _ a' w' (inv.set hr' hin) hB' h'.1 h'.2⟩) h
  | .two i p j q, listed, a, w, inv, hB, hS, h => by
    simp only [plB, Bool.and_eq_true, decide_eq_true_eq] at hB
    obtain ⟨⟨⟨⟨⟨hin, hjn⟩, htwo⟩, hlen⟩, hB1⟩, hB2⟩ := hB
    have hri : i ∈ Region.ready md ops listed := by rw [htwo]; simp
    have hrj : j ∈ Region.ready md ops listed := by rw [htwo]; simp
    rw [Pl.len, show p.len + 1 + tl.length = (p.len + tl.length) + 1 by omega]
    refine ⟨fun h1 => (by rw [h1] at hri; cases hri), fun k hk => ?_⟩
    rw [htwo] at hk
    rcases List.mem_cons.1 hk with rfl | hk
    · exact wpOp_mono (fun a' w' h' => ⟨fun _ => h'.1, wpAnyT_pl hsel hs hc hn hQ htl p _ a' w' (inv.set hri hin) hB1 h'.1 h'.2⟩) h.1
    · obtain rfl : k = j := by simpa using hk
      rw [hlen]
      exact wpOp_mono (fun a' w' h' => ⟨fun _ => h'.1, wpAnyT_pl hsel hs hc hn hQ htl q _ a' w' (inv.set hrj hjn) hB2 h'.1 h'.2⟩) h.2
def plTailB (md : Region.Mode) (ops : Array Oper) (n : Nat) (plan : Pl) : Bool :=
  Region.noSelect ops && decide (n < ops.size) && decide (plan.len = n) && Region.sinkB md ops n && Region.chainB md ops n && plB md ops n (ops.size - n) plan (Array.replicate ops.size false)
theorem wp_region_pl {id : Nat} {a : Act} {w : World} {l : List Oper} (n : Nat) (plan : Pl) (S : World → Prop) (hm : P.follows .mixedOrders = true) (hB : plTailB .any l.toArray n plan = true) (hQ : ∀ c a d v w, Q (.panic c) (Act.put a d v) w → Q (.panic c) a w) (hS : S w.drew)
    (h : wpPl P l.toArray Q S (fun a' w' => wpList P l.toArray Q (l.drop n) a' w') plan a w.drew) : (Code.region id l.toArray true).wp P Q a w := by
  simp only [plTailB, Bool.and_eq_true, decide_eq_true_eq] at hB
  obtain ⟨⟨⟨⟨⟨hsel, hn⟩, hpl⟩, hs⟩, hc⟩, hp⟩ := hB
  have hn' : n < l.length := by simpa using hn
  have hdl : (l.drop n).length = l.toArray.size - n := by simp
  have inv0 : HeadInv .any l.toArray n (Array.replicate l.toArray.size false) :=
    ⟨by simp, fun j oj _ hl => (by rw [getD_replicate_false] at hl; cases hl), fun t _ ht => getD_in (by simpa using ht) (getD_replicate_false _ _)⟩
  have H := wpAnyT_pl (md := .any) (tl := l.drop n) hsel hs hc hn hQ (fun j => by simp [List.getElem?_drop]) plan _ a w.drew inv0 (by rw [hdl]; exact hp) hS h
  refine wp_region_any hm ?_
  have H2 := wpAny_of_T _ _ _ _ H
  rw [hdl, hpl, show n + (l.toArray.size - n) = l.toArray.size by omega] at H2
  exact H2
theorem wpPl_read {L : Act → World → Prop} {i : Nat} {o : Oper} {t : Pl} {a : Act} {w : World} {v : Value} (ho : ops[i]? = some o) (hg : o.guard = none) (hy : ∀ w', S w' → (execOp a.eval o).run P w' = .ok (.value v) w')
    (h : ∀ K : Act → Prop, (∀ a, wpPl P ops Q S L t a w → K a) → K (a.put o.dst v)) : wpPl P ops Q S L (.rd i t) a w :=
  ⟨o, v, ho, .inl ⟨by simp [Region.wanted, hg], hy⟩, h _ fun _ h => h⟩
theorem wpPl_readG {L : Act → World → Prop} {i : Nat} {o : Oper} {t : Pl} {a : Act} {w : World} {v : Value} (ho : ops[i]? = some o) (hg : Region.wanted o (yielded ops a.tmps) = true) (hy : ∀ w', S w' → (execOp a.eval o).run P w' = .ok (.value v) w')
    (h : ∀ K : Act → Prop, (∀ a, wpPl P ops Q S L t a w → K a) → K (a.put o.dst v)) : wpPl P ops Q S L (.rd i t) a w :=
  ⟨o, v, ho, .inl ⟨hg, hy⟩, h _ fun _ h => h⟩
theorem wpPl_write {L : Act → World → Prop} {i : Nat} {o : Oper} {t : Pl} {a : Act} {w : World} (ho : ops[i]? = some o)
    (h : ∀ K : Act → World → Prop, Shut (∀ a w, S w → wpPl P ops Q S L t a w → K a w) → if Region.wanted o (yielded ops a.tmps) = true then Oper.wp P o a w K Q else K (a.put o.dst undef) w) : wpPl P ops Q S L (.wr i t) a w :=
  wpOp_step ho (fun K hK => h K (fun a w hS hW => hK a w ⟨hS, hW⟩))
theorem wpPl_two {L : Act → World → Prop} {i j : Nat} {oi oj : Oper} {p q : Pl} {a : Act} {w : World} (hi : ops[i]? = some oi) (hj : ops[j]? = some oj)
    (h1 : ∀ K : Act → World → Prop, Shut (∀ a w, S w → wpPl P ops Q S L p a w → K a w) → if Region.wanted oi (yielded ops a.tmps) = true then Oper.wp P oi a w K Q else K (a.put oi.dst undef) w)
    (h2 : ∀ K : Act → World → Prop, Shut (∀ a w, S w → wpPl P ops Q S L q a w → K a w) → if Region.wanted oj (yielded ops a.tmps) = true then Oper.wp P oj a w K Q else K (a.put oj.dst undef) w) : wpPl P ops Q S L (.two i p j q) a w :=
  ⟨wpOp_step hi (fun K hK => h1 K (fun a w hS hW => hK a w ⟨hS, hW⟩)), wpOp_step hj (fun K hK => h2 K (fun a w hS hW => hK a w ⟨hS, hW⟩))⟩
end
end Go.Proofs.YtpcalgoaccmofaaGreatDoor
