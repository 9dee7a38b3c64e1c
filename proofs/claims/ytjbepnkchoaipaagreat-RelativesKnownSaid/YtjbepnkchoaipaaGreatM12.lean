import Derived.Test.YtjbepnkchoaipaaGreatBase
import Derived.OrdersHeld
import Derived.StillTail
import Derived.Deep.RegionHeld
set_option linter.unusedVariables false
set_option linter.unusedSimpArgs false
/- A region that draws its order: reads are taken first, then what writes, in the one order that is left, and last a tail that waits for all of them. S: what the reads need; it is owed behind each operation of the head alone. -/
namespace Go.Proofs.YtjbepnkchoaipaaGreat
open Go
section
variable {P : Program} {ops : Array Oper} {Q : Exit → Act → World → Prop} {md : Region.Mode} {S : World → Prop}
def wpAnyT (P : Program) (md : Region.Mode) (ops : Array Oper) (Q : Exit → Act → World → Prop) (S : World → Prop) (n : Nat) : Nat → Array Bool → Act → World → Prop
  | 0, listed, a, w => Region.ready md ops listed = [] ∧ Q .normal a w
  | f + 1, listed, a, w => (Region.ready md ops listed = [] → Q .normal a w) ∧
    ∀ i ∈ Region.ready md ops listed, wpOp P ops Q i (fun a' w' => (i < n → S w') ∧ wpAnyT P md ops Q S n f (listed.setIfInBounds i true) a' w') a w
theorem wpAny_of_T {n : Nat} : ∀ (fuel : Nat) (listed : Array Bool) (a : Act) (w : World), wpAnyT P md ops Q S n fuel listed a w → wpAny P md ops Q fuel listed a w
  | 0, _, _, _, h => h
  | fuel + 1, _, _, _, h => ⟨h.1, fun i hi => wpOp_mono (fun a' w' h' => wpAny_of_T fuel _ a' w' h'.2) (h.2 i hi)⟩
theorem wpAnyT_first {n i : Nat} {oi : Oper} {v : Value} (hi : ops[i]? = some oi) (hsel : ∀ (j : Nat) (o : Oper) cs b, ops[j]? = some o → o.op ≠ .select cs b)
    (hQ : ∀ c a w, Q (.panic c) (a.put oi.dst v) w → Q (.panic c) a w) (hs : Region.sinkB md ops n = true) (hc : Region.chainB md ops n = true) (hn : n < ops.size) (hin : i < n) :
    ∀ (fuel : Nat) (listed : Array Bool) (a : Act) (w : World), HeadInv md ops n listed →
      (∀ j oj, ops[j]? = some oj → j ≠ i → listed.getD j true = false → (∀ e ∈ oj.after, Region.binds md e = true → e.on ≠ i) → oi.apart ops oj = true) →
      i ∈ Region.ready md ops listed → YieldsIf P ops S oi v a → S w →
      wpAnyT P md ops Q S n fuel (listed.setIfInBounds i true) (a.put oi.dst v) w → wpAnyT P md ops Q S n (fuel + 1) listed a w := by
  intro fuel
  induction fuel with
  | zero =>
    intro listed a w _ _ hr hy hS H
    refine ⟨fun h => (by rw [h] at hr; cases hr), fun j hj => ?_⟩
    by_cases hji : j = i
    · subst hji; exact hy.wpOp hi hS ⟨fun _ => hS, H⟩
    · have := ready_mono hj hji
      rw [H.1] at this
      cases this
  | succ fuel ih =>
    intro listed a w inv hfree hr hy hS H
    refine ⟨fun h => (by rw [h] at hr; cases hr), fun j hj => ?_⟩
    have hjn : j < n := by
      rcases Nat.lt_or_ge j n with h | h
      · exact h
      · exact absurd hj (tail_waits hs hc hn inv _ i rfl hin (mem_ready.1 hr).1 j h)
    by_cases hji : j = i
    · subst hji; exact hy.wpOp hi hS ⟨fun _ => hS, H⟩
    · have h1 := H.2 j (ready_mono hj hji)
      obtain ⟨hjun, oj, hoj, hall⟩ := mem_ready.1 hj
      have hnot : ∀ e ∈ oj.after, Region.binds md e = true → e.on ≠ i := fun e he hb heq => by
        have h1 := hall e he hb
        rw [heq, getD_both (mem_ready.1 hr).1] at h1
        cases h1
      have h2 := wpOp_putIf hoj (hfree j oj hoj hji hjun hnot) (fun cs b => hsel i oi cs b hi) (fun cs b => hsel j oj cs b hoj) hQ hy h1
      have hfree' : ∀ k ok, ops[k]? = some ok → k ≠ i → (listed.setIfInBounds j true).getD k true = false →
          (∀ e ∈ ok.after, Region.binds md e = true → e.on ≠ i) → oi.apart ops ok = true := fun k ok hk hki hun hno => by
        refine hfree k ok hk hki ?_ hno
        by_cases hjk : j = k
        · subst hjk; exact hjun
        · rw [getD_set_ne true hjk] at hun; exact hun
      refine wpOp_mono (fun a' w' h3 => ⟨fun _ => h3.2.1 hjn, ih (listed.setIfInBounds j true) a' w' (inv.set hj hjn) hfree' (ready_mono hr (Ne.symm hji)) h3.1 (h3.2.1 hjn) ?_⟩) h2
      rw [Array.setIfInBounds_comm _ _ hji]
      exact h3.2.2
theorem wpAnyT_of_seq {n : Nat} : ∀ (l : List Oper) (k : Nat) (listed : Array Bool) (a : Act) (w : World), n ≤ k → (∀ j, l[j]? = ops[k + j]?) →
    Region.seqB md ops l.length k listed = true → wpList P ops Q l a w → wpAnyT P md ops Q S n l.length listed a w
  | [], _, _, _, _, _, _, hB, h => ⟨by simpa [Region.seqB] using hB, h⟩
  | o :: l, k, listed, a, w, hnk, hl, hB, h => by
    have h0 : ops[k]? = some o := by simpa using (hl 0).symm
    simp only [List.length_cons, Region.seqB, Bool.and_eq_true, decide_eq_true_eq] at hB
    refine ⟨fun h1 => (by rw [hB.1] at h1; cases h1), fun i hi => ?_⟩
    rw [hB.1] at hi
    have hik : i = k := by simpa using hi
    subst hik
    have hw : wpOp P ops Q i (wpList P ops Q l) a w := by unfold wpOp; simp only [h0]; exact h
    exact wpOp_mono (fun a' w' h' => ⟨fun hlt => absurd hlt (by omega), wpAnyT_of_seq l (i + 1) _ a' w' (by omega) (fun j => by have := hl (j + 1); simpa [Nat.add_assoc, Nat.add_comm 1 j] using this) hB.2 h'⟩) hw
/-- The order in which the head is walked: an operation, and whether it writes. -/
def planB (md : Region.Mode) (ops : Array Oper) (n g : Nat) : List (Nat × Bool) → Array Bool → Bool
  | [], listed => Region.seqB md ops g n listed
  | (i, b) :: t, listed => decide (i < n) && (Region.ready md ops listed).contains i && (if b then decide (Region.ready md ops listed = [i]) else Region.free md ops listed i) && planB md ops n g t (listed.setIfInBounds i true)
def wpPlan (P : Program) (ops : Array Oper) (Q : Exit → Act → World → Prop) (S : World → Prop) (L : Act → World → Prop) : List (Nat × Bool) → Act → World → Prop
  | [], a, w => L a w
  | (i, false) :: t, a, w => ∃ o v, ops[i]? = some o ∧ YieldsIf P ops S o v a ∧ wpPlan P ops Q S L t (a.put o.dst v) w
  | (i, true) :: t, a, w => wpOp P ops Q i (fun a' w' => S w' ∧ wpPlan P ops Q S L t a' w') a w
theorem wpAnyT_plan {n : Nat} {tl : List Oper} (hsel : Region.noSelect ops = true) (hs : Region.sinkB md ops n = true) (hc : Region.chainB md ops n = true) (hn : n < ops.size) (hQ : ∀ c a d v w, Q (.panic c) (Act.put a d v) w → Q (.panic c) a w) (htl : ∀ j, tl[j]? = ops[n + j]?) :
    ∀ (plan : List (Nat × Bool)) (listed : Array Bool) (a : Act) (w : World), HeadInv md ops n listed → planB md ops n tl.length plan listed = true → S w →
      wpPlan P ops Q S (fun a w => wpList P ops Q tl a w) plan a w → wpAnyT P md ops Q S n (plan.length + tl.length) listed a w
  | [], listed, a, w, inv, hB, hS, h => by
    rw [List.length_nil, Nat.zero_add]
    exact wpAnyT_of_seq tl n listed a w (Nat.le_refl _) htl hB h
  | (i, false) :: t, listed, a, w, inv, hB, hS, h => by
    simp only [planB, Bool.and_eq_true, decide_eq_true_eq] at hB
    obtain ⟨⟨⟨hin, hr⟩, hf⟩, hB'⟩ := hB
    obtain ⟨o, v, ho, hy, hk⟩ := h
    have hr' : i ∈ Region.ready md ops listed := by simpa using hr
    rw [List.length_cons, show t.length + 1 + tl.length = (t.length + tl.length) + 1 by omega]
    exact wpAnyT_first ho (Region.noSelect_spec hsel) (fun c a w h => hQ c a _ _ w h) hs hc hn hin _ listed a w inv (Region.free_spec ho hf) hr' hy hS
      (wpAnyT_plan hsel hs hc hn hQ htl t _ _ w (inv.set hr' hin) hB' hS hk)
  | (i, true) :: t, listed, a, w, inv, hB, hS, h => by
    simp only [planB, Bool.and_eq_true, decide_eq_true_eq, if_true] at hB
    obtain ⟨⟨⟨hin, hr⟩, hone⟩, hB'⟩ := hB
    have hr' : i ∈ Region.ready md ops listed := by simpa using hr
    rw [List.length_cons, show t.length + 1 + tl.length = (t.length + tl.length) + 1 by omega]
    refine ⟨fun h1 => (by rw [h1] at hr'; cases hr'), fun j hj => ?_⟩
    rw [hone] at hj
    obtain rfl : j = i := by simpa using hj
    exact wpOp_mono (fun a' w' h' => ⟨fun _ => h'.1, wpAnyT_plan hsel hs hc hn hQ htl t _ a' w' (inv.set hr' hin) hB' h'.1 h'.2⟩) h
def planTailB (md : Region.Mode) (ops : Array Oper) (n : Nat) (plan : List (Nat × Bool)) : Bool :=
  Region.noSelect ops && decide (n < ops.size) && decide (plan.length = n) && Region.sinkB md ops n && Region.chainB md ops n && planB md ops n (ops.size - n) plan (Array.replicate ops.size false)
theorem wp_region_plan {id : Nat} {a : Act} {w : World} {l : List Oper} (n : Nat) (plan : List (Nat × Bool)) (S : World → Prop) (hm : P.follows .mixedOrders = true) (hB : planTailB .any l.toArray n plan = true) (hQ : ∀ c a d v w, Q (.panic c) (Act.put a d v) w → Q (.panic c) a w) (hS : S w.drew)
    (h : wpPlan P l.toArray Q S (fun a' w' => wpList P l.toArray Q (l.drop n) a' w') plan a w.drew) : (Code.region id l.toArray true).wp P Q a w := by
  simp only [planTailB, Bool.and_eq_true, decide_eq_true_eq] at hB
  obtain ⟨⟨⟨⟨⟨hsel, hn⟩, hpl⟩, hs⟩, hc⟩, hp⟩ := hB
  have hn' : n < l.length := by simpa using hn
  have hdl : (l.drop n).length = l.toArray.size - n := by simp
  have inv0 : HeadInv .any l.toArray n (Array.replicate l.toArray.size false) :=
    ⟨by simp, fun j oj _ hl => (by rw [getD_replicate_false] at hl; cases hl), fun t _ ht => getD_in (by simpa using ht) (getD_replicate_false _ _)⟩
  have H := wpAnyT_plan (md := .any) (tl := l.drop n) hsel hs hc hn hQ (fun j => by simp [List.getElem?_drop]) plan _ a w.drew inv0 (by rw [hdl]; exact hp) hS h
  refine wp_region_any hm ?_
  have H2 := wpAny_of_T _ _ _ _ H
  rw [hdl, hpl, show n + (l.toArray.size - n) = l.toArray.size by omega] at H2
  exact H2
theorem wpPlan_read {L : Act → World → Prop} {i : Nat} {o : Oper} {t : List (Nat × Bool)} {a : Act} {w : World} {v : Value} (ho : ops[i]? = some o) (hg : o.guard = none) (hy : ∀ w', S w' → (execOp a.eval o).run P w' = .ok (.value v) w')
    (h : ∀ K : Act → Prop, (∀ a, wpPlan P ops Q S L t a w → K a) → K (a.put o.dst v)) : wpPlan P ops Q S L ((i, false) :: t) a w :=
  ⟨o, v, ho, .inl ⟨by simp [Region.wanted, hg], hy⟩, h _ fun _ h => h⟩
theorem wpPlan_write {L : Act → World → Prop} {i : Nat} {o : Oper} {t : List (Nat × Bool)} {a : Act} {w : World} (ho : ops[i]? = some o)
    (h : ∀ K : Act → World → Prop, Shut (∀ a w, S w → wpPlan P ops Q S L t a w → K a w) → if Region.wanted o (yielded ops a.tmps) = true then Oper.wp P o a w K Q else K (a.put o.dst undef) w) : wpPlan P ops Q S L ((i, true) :: t) a w :=
  wpOp_step ho (fun K hK => h K (fun a w hS hW => hK a w ⟨hS, hW⟩))
end
end Go.Proofs.YtjbepnkchoaipaaGreat
/- As Held, for a region in which a store comes ahead of late reads: two conditions, S1 for the early reads, S2 for the late ones; behind a store that waits for all early reads S2 alone is owed. -/
namespace Go.Proofs.YtjbepnkchoaipaaGreat
open Go
section
variable {P : Program} {ops : Array Oper} {Q : Exit → Act → World → Prop} {md : Region.Mode} {S1 S2 : World → Prop} {late wr : List Nat}
def selS (S1 S2 : World → Prop) (late : List Nat) (i : Nat) : World → Prop := fun w => S2 w ∧ (late.contains i = false → S1 w)
/-- May an early read come up behind the operation j? -/
def owesB (md : Region.Mode) (ops : Array Oper) (n : Nat) (late : List Nat) (j : Nat) : Bool := (List.range n).any fun i => !late.contains i && !Region.waitsFor md ops j i
/-- What is owed behind the operation j: of what writes, the conditions; of a read, that nothing has turned. -/
def postU (md : Region.Mode) (ops : Array Oper) (S1 S2 : World → Prop) (late wr : List Nat) (n j : Nat) (w w' : World) : Prop :=
  if wr.contains j = true then S2 w' ∧ (owesB md ops n late j = true → S1 w') else w' = w
def wpAnyU (P : Program) (md : Region.Mode) (ops : Array Oper) (Q : Exit → Act → World → Prop) (S1 S2 : World → Prop) (late wr : List Nat) (n : Nat) : Nat → Array Bool → Act → World → Prop
  | 0, listed, a, w => Region.ready md ops listed = [] ∧ Q .normal a w
  | f + 1, listed, a, w => (Region.ready md ops listed = [] → Q .normal a w) ∧
    ∀ i ∈ Region.ready md ops listed, wpOp P ops Q i (fun a' w' => (i < n → postU md ops S1 S2 late wr n i w w') ∧ wpAnyU P md ops Q S1 S2 late wr n f (listed.setIfInBounds i true) a' w') a w
theorem wpAny_of_U {n : Nat} : ∀ (fuel : Nat) (listed : Array Bool) (a : Act) (w : World), wpAnyU P md ops Q S1 S2 late wr n fuel listed a w → wpAny P md ops Q fuel listed a w
  | 0, _, _, _, h => h
  | fuel + 1, _, _, _, h => ⟨h.1, fun i hi => wpOp_mono (fun a' w' h' => wpAny_of_U fuel _ a' w' h'.2) (h.2 i hi)⟩
theorem owes_of {n i j : Nat} {listed : Array Bool} (hin : i < n) (hl : late.contains i = false) (hj : j ∈ Region.ready md ops listed) (hi : listed.getD i true = false) : owesB md ops n late j = true := by
  refine List.any_eq_true.2 ⟨i, List.mem_range.2 hin, ?_⟩
  rw [hl]
  cases hw : Region.waitsFor md ops j i with
  | false => rfl
  | true =>
    exfalso
    obtain ⟨oj, hoj, e, he, hb, hon⟩ := Region.waitsFor_spec hw
    obtain ⟨_, o2, ho2, hall⟩ := mem_ready.1 hj
    have : o2 = oj := Option.some.inj (ho2.symm.trans hoj)
    subst this
    have h2 := hall e he hb
    rw [hon, getD_both hi] at h2
    cases h2
theorem wpAnyU_first {n i : Nat} {oi : Oper} {v : Value} (hi : ops[i]? = some oi) (hsel : ∀ (j : Nat) (o : Oper) cs b, ops[j]? = some o → o.op ≠ .select cs b)
    (hQ : ∀ c a w, Q (.panic c) (a.put oi.dst v) w → Q (.panic c) a w) (hs : Region.sinkB md ops n = true) (hc : Region.chainB md ops n = true) (hn : n < ops.size) (hin : i < n) (hwr : wr.contains i = false) :
    ∀ (fuel : Nat) (listed : Array Bool) (a : Act) (w : World), HeadInv md ops n listed →
      (∀ j oj, ops[j]? = some oj → j ≠ i → listed.getD j true = false → (∀ e ∈ oj.after, Region.binds md e = true → e.on ≠ i) → oi.apart ops oj = true) →
      i ∈ Region.ready md ops listed → YieldsIf P ops (selS S1 S2 late i) oi v a → selS S1 S2 late i w →
      wpAnyU P md ops Q S1 S2 late wr n fuel (listed.setIfInBounds i true) (a.put oi.dst v) w → wpAnyU P md ops Q S1 S2 late wr n (fuel + 1) listed a w := by
  have hself : ∀ w : World, postU md ops S1 S2 late wr n i w w := fun w => by unfold postU; rw [if_neg (by rw [hwr]; simp)]
  intro fuel
  induction fuel with
  | zero =>
    intro listed a w _ _ hr hy hS H
    refine ⟨fun h => (by rw [h] at hr; cases hr), fun j hj => ?_⟩
    by_cases hji : j = i
    · subst hji; exact hy.wpOp hi hS ⟨fun _ => hself _, H⟩
    · have := ready_mono hj hji
      rw [H.1] at this
      cases this
  | succ fuel ih =>
    intro listed a w inv hfree hr hy hS H
    have hun := (mem_ready.1 hr).1
    refine ⟨fun h => (by rw [h] at hr; cases hr), fun j hj => ?_⟩
    have hjn : j < n := by
      rcases Nat.lt_or_ge j n with h | h
      · exact h
      · exact absurd hj (tail_waits hs hc hn inv _ i rfl hin hun j h)
    by_cases hji : j = i
    · subst hji; exact hy.wpOp hi hS ⟨fun _ => hself _, H⟩
    · have h1 := H.2 j (ready_mono hj hji)
      obtain ⟨hjun, oj, hoj, hall⟩ := mem_ready.1 hj
      have hnot : ∀ e ∈ oj.after, Region.binds md e = true → e.on ≠ i := fun e he hb heq => by
        have h1 := hall e he hb
        rw [heq, getD_both hun] at h1
        cases h1
      have h2 := wpOp_putIf hoj (hfree j oj hoj hji hjun hnot) (fun cs b => hsel i oi cs b hi) (fun cs b => hsel j oj cs b hoj) hQ hy h1
      have hfree' : ∀ k ok, ops[k]? = some ok → k ≠ i → (listed.setIfInBounds j true).getD k true = false →
          (∀ e ∈ ok.after, Region.binds md e = true → e.on ≠ i) → oi.apart ops ok = true := fun k ok hk hki hun hno => by
        refine hfree k ok hk hki ?_ hno
        by_cases hjk : j = k
        · subst hjk; exact hjun
        · rw [getD_set_ne true hjk] at hun; exact hun
      have hnew : ∀ w', postU md ops S1 S2 late wr n j w w' → selS S1 S2 late i w' := by
        intro w' hp
        unfold postU at hp
        split at hp
        · exact ⟨hp.1, fun hl => hp.2 (owes_of hin hl hj hun)⟩
        · rw [hp]; exact hS
      refine wpOp_mono (fun a' w' h3 => ⟨fun _ => h3.2.1 hjn, ih (listed.setIfInBounds j true) a' w' (inv.set hj hjn) hfree' (ready_mono hr (Ne.symm hji)) h3.1 (hnew w' (h3.2.1 hjn)) ?_⟩) h2
      rw [Array.setIfInBounds_comm _ _ hji]
      exact h3.2.2
theorem wpAnyU_of_seq {n : Nat} : ∀ (l : List Oper) (k : Nat) (listed : Array Bool) (a : Act) (w : World), n ≤ k → (∀ j, l[j]? = ops[k + j]?) →
    Region.seqB md ops l.length k listed = true → wpList P ops Q l a w → wpAnyU P md ops Q S1 S2 late wr n l.length listed a w
  | [], _, _, _, _, _, _, hB, h => ⟨by simpa [Region.seqB] using hB, h⟩
  | o :: l, k, listed, a, w, hnk, hl, hB, h => by
    have h0 : ops[k]? = some o := by simpa using (hl 0).symm
    simp only [List.length_cons, Region.seqB, Bool.and_eq_true, decide_eq_true_eq] at hB
    refine ⟨fun h1 => (by rw [hB.1] at h1; cases h1), fun i hi => ?_⟩
    rw [hB.1] at hi
    have hik : i = k := by simpa using hi
    subst hik
    have hw : wpOp P ops Q i (wpList P ops Q l) a w := by unfold wpOp; simp only [h0]; exact h
    exact wpOp_mono (fun a' w' h' => ⟨fun hlt => absurd hlt (by omega), wpAnyU_of_seq l (i + 1) _ a' w' (by omega) (fun j => by have := hl (j + 1); simpa [Nat.add_assoc, Nat.add_comm 1 j] using this) hB.2 h'⟩) hw
/-- The plan: c: does S1 still hold? -/
def planUB (md : Region.Mode) (ops : Array Oper) (late wr : List Nat) (n g : Nat) : Bool → List (Nat × Bool) → Array Bool → Bool
  | _, [], listed => Region.seqB md ops g n listed
  | c, (i, b) :: t, listed => decide (i < n) && (Region.ready md ops listed).contains i && (b == wr.contains i) &&
    (if b then decide (Region.ready md ops listed = [i]) else Region.free md ops listed i && (c || late.contains i)) && planUB md ops late wr n g (if b then c && owesB md ops n late i else c) t (listed.setIfInBounds i true)
def wpPlanU (P : Program) (md : Region.Mode) (ops : Array Oper) (Q : Exit → Act → World → Prop) (S1 S2 : World → Prop) (late : List Nat) (n : Nat) (L : Act → World → Prop) : List (Nat × Bool) → Act → World → Prop
  | [], a, w => L a w
  | (i, false) :: t, a, w => ∃ o v, ops[i]? = some o ∧ YieldsIf P ops (selS S1 S2 late i) o v a ∧ wpPlanU P md ops Q S1 S2 late n L t (a.put o.dst v) w
  | (i, true) :: t, a, w => wpOp P ops Q i (fun a' w' => (S2 w' ∧ (owesB md ops n late i = true → S1 w')) ∧ wpPlanU P md ops Q S1 S2 late n L t a' w') a w
theorem wpAnyU_plan {n : Nat} {tl : List Oper} (hsel : Region.noSelect ops = true) (hs : Region.sinkB md ops n = true) (hc : Region.chainB md ops n = true) (hn : n < ops.size) (hQ : ∀ c a d v w, Q (.panic c) (Act.put a d v) w → Q (.panic c) a w) (htl : ∀ j, tl[j]? = ops[n + j]?) :
    ∀ (plan : List (Nat × Bool)) (c : Bool) (listed : Array Bool) (a : Act) (w : World), HeadInv md ops n listed → planUB md ops late wr n tl.length c plan listed = true → S2 w → (c = true → S1 w) →
      wpPlanU P md ops Q S1 S2 late n (fun a w => wpList P ops Q tl a w) plan a w → wpAnyU P md ops Q S1 S2 late wr n (plan.length + tl.length) listed a w
  | [], c, listed, a, w, inv, hB, hS, hS1, h => by
    rw [List.length_nil, Nat.zero_add]
    exact wpAnyU_of_seq tl n listed a w (Nat.le_refl _) htl hB h
  | (i, false) :: t, c, listed, a, w, inv, hB, hS, hS1, h => by
    simp only [planUB, Bool.and_eq_true, decide_eq_true_eq, Bool.or_eq_true, Bool.false_eq_true, if_false, beq_iff_eq] at hB
    obtain ⟨⟨⟨⟨hin, hr⟩, hw⟩, hf, hcl⟩, hB'⟩ := hB
    obtain ⟨o, v, ho, hy, hk⟩ := h
    have hr' : i ∈ Region.ready md ops listed := by simpa using hr
    rw [List.length_cons, show t.length + 1 + tl.length = (t.length + tl.length) + 1 by omega]
    exact wpAnyU_first ho (Region.noSelect_spec hsel) (fun c a w h => hQ c a _ _ w h) hs hc hn hin hw.symm _ listed a w inv (Region.free_spec ho hf) hr' hy ⟨hS, fun hl => by
        rcases hcl with h | h
        · exact hS1 h
        · rw [hl] at h; cases h⟩
      (wpAnyU_plan hsel hs hc hn hQ htl t c _ _ w (inv.set hr' hin) hB' hS hS1 hk)
  | (i, true) :: t, c, listed, a, w, inv, hB, hS, hS1, h => by
    simp only [planUB, Bool.and_eq_true, decide_eq_true_eq, if_true, beq_iff_eq] at hB
    obtain ⟨⟨⟨⟨hin, hr⟩, hw⟩, hone⟩, hB'⟩ := hB
    have hr' : i ∈ Region.ready md ops listed := by simpa using hr
    rw [List.length_cons, show t.length + 1 + tl.length = (t.length + tl.length) + 1 by omega]
    refine ⟨fun h1 => (by rw [h1] at hr'; cases hr'), fun j hj => ?_⟩
    rw [hone] at hj
    obtain rfl : j = i := by simpa using hj
    exact wpOp_mono (fun a' w' h' => ⟨fun _ => by unfold postU; rw [if_pos hw.symm]; exact h'.1, wpAnyU_plan hsel hs hc hn hQ htl t _ _ a' w' (inv.set hr' hin) hB' h'.1.1 (fun hb => h'.1.2 (by simp only [Bool.and_eq_true] at hb; exact hb.2)) h'.2⟩) h
def planTailUB (md : Region.Mode) (ops : Array Oper) (late wr : List Nat) (n : Nat) (plan : List (Nat × Bool)) : Bool :=
  Region.noSelect ops && decide (n < ops.size) && decide (plan.length = n) && Region.sinkB md ops n && Region.chainB md ops n && planUB md ops late wr n (ops.size - n) true plan (Array.replicate ops.size false)
theorem wp_region_planU {id : Nat} {a : Act} {w : World} {l : List Oper} (n : Nat) (late wr : List Nat) (plan : List (Nat × Bool)) (S1 S2 : World → Prop) (hm : P.follows .mixedOrders = true) (hB : planTailUB .any l.toArray late wr n plan = true) (hQ : ∀ c a d v w, Q (.panic c) (Act.put a d v) w → Q (.panic c) a w) (hS1 : S1 w.drew) (hS2 : S2 w.drew)
    (h : wpPlanU P .any l.toArray Q S1 S2 late n (fun a' w' => wpList P l.toArray Q (l.drop n) a' w') plan a w.drew) : (Code.region id l.toArray true).wp P Q a w := by
  simp only [planTailUB, Bool.and_eq_true, decide_eq_true_eq] at hB
  obtain ⟨⟨⟨⟨⟨hsel, hn⟩, hpl⟩, hs⟩, hc⟩, hp⟩ := hB
  have hn' : n < l.length := by simpa using hn
  have hdl : (l.drop n).length = l.toArray.size - n := by simp
  have inv0 : HeadInv .any l.toArray n (Array.replicate l.toArray.size false) :=
    ⟨by simp, fun j oj _ hl => (by rw [getD_replicate_false] at hl; cases hl), fun t _ ht => getD_in (by simpa using ht) (getD_replicate_false _ _)⟩
  have H := wpAnyU_plan (md := .any) (late := late) (wr := wr) (tl := l.drop n) hsel hs hc hn hQ (fun j => by simp [List.getElem?_drop]) plan true _ a w.drew inv0 (by rw [hdl]; exact hp) hS2 (fun _ => hS1) h
  refine wp_region_any hm ?_
  have H2 := wpAny_of_U _ _ _ _ H
  rw [hdl, hpl, show n + (l.toArray.size - n) = l.toArray.size by omega] at H2
  exact H2
theorem wpPlanU_read {n : Nat} {L : Act → World → Prop} {i : Nat} {o : Oper} {t : List (Nat × Bool)} {a : Act} {w : World} {v : Value} (ho : ops[i]? = some o) (hg : o.guard = none) (hl : late.contains i = false) (hy : ∀ w', S1 w' → (execOp a.eval o).run P w' = .ok (.value v) w')
    (h : ∀ K : Act → Prop, (∀ a, wpPlanU P md ops Q S1 S2 late n L t a w → K a) → K (a.put o.dst v)) : wpPlanU P md ops Q S1 S2 late n L ((i, false) :: t) a w :=
  ⟨o, v, ho, .inl ⟨by simp [Region.wanted, hg], fun w' hS => hy w' (hS.2 hl)⟩, h _ fun _ h => h⟩
theorem wpPlanU_late {n : Nat} {L : Act → World → Prop} {i : Nat} {o : Oper} {t : List (Nat × Bool)} {a : Act} {w : World} {v : Value} (ho : ops[i]? = some o) (hg : o.guard = none) (hy : ∀ w', S2 w' → (execOp a.eval o).run P w' = .ok (.value v) w')
    (h : ∀ K : Act → Prop, (∀ a, wpPlanU P md ops Q S1 S2 late n L t a w → K a) → K (a.put o.dst v)) : wpPlanU P md ops Q S1 S2 late n L ((i, false) :: t) a w :=
  ⟨o, v, ho, .inl ⟨by simp [Region.wanted, hg], fun w' hS => hy w' hS.1⟩, h _ fun _ h => h⟩
/-- What writes: both conditions are shown; or, where no early read may follow, the second one alone. -/
theorem wpPlanU_write {n : Nat} {L : Act → World → Prop} {i : Nat} {o : Oper} {t : List (Nat × Bool)} {a : Act} {w : World} (ho : ops[i]? = some o)
    (h : ∀ K : Act → World → Prop, Shut (∀ a w, S1 w → S2 w → wpPlanU P md ops Q S1 S2 late n L t a w → K a w) → if Region.wanted o (yielded ops a.tmps) = true then Oper.wp P o a w K Q else K (a.put o.dst undef) w) : wpPlanU P md ops Q S1 S2 late n L ((i, true) :: t) a w :=
  wpOp_step ho (fun K hK => h K (fun a w h1 h2 hW => hK a w ⟨⟨h2, fun _ => h1⟩, hW⟩))
theorem wpPlanU_last {n : Nat} {L : Act → World → Prop} {i : Nat} {o : Oper} {t : List (Nat × Bool)} {a : Act} {w : World} (ho : ops[i]? = some o) (hw : owesB md ops n late i = false)
    (h : ∀ K : Act → World → Prop, Shut (∀ a w, S2 w → wpPlanU P md ops Q S1 S2 late n L t a w → K a w) → if Region.wanted o (yielded ops a.tmps) = true then Oper.wp P o a w K Q else K (a.put o.dst undef) w) : wpPlanU P md ops Q S1 S2 late n L ((i, true) :: t) a w :=
  wpOp_step ho (fun K hK => h K (fun a w h2 hW => hK a w ⟨⟨h2, fun e => by rw [hw] at e; cases e⟩, hW⟩))
end
end Go.Proofs.YtjbepnkchoaipaaGreat
/- As Held, for a region in which two that write may come up at once: a plan that parts there. -/
namespace Go.Proofs.YtjbepnkchoaipaaGreat
open Go
/-- A plan: reads, what writes, and where two that write may come up. -/
inductive Pl where
  | fin
  | rd (i : Nat) (p : Pl)
  | wr (i : Nat) (p : Pl)
  | two (i : Nat) (p : Pl) (j : Nat) (q : Pl)
def Pl.len : Pl → Nat
  | .fin => 0
  | .rd _ p => p.len + 1
  | .wr _ p => p.len + 1
  | .two _ p _ _ => p.len + 1
section
variable {P : Program} {ops : Array Oper} {Q : Exit → Act → World → Prop} {md : Region.Mode} {S : World → Prop}
def plB (md : Region.Mode) (ops : Array Oper) (n g : Nat) : Pl → Array Bool → Bool
  | .fin, listed => Region.seqB md ops g n listed
  | .rd i p, listed => decide (i < n) && (Region.ready md ops listed).contains i && Region.free md ops listed i && plB md ops n g p (listed.setIfInBounds i true)
  | .wr i p, listed => decide (i < n) && decide (Region.ready md ops listed = [i]) && plB md ops n g p (listed.setIfInBounds i true)
  | .two i p j q, listed => decide (i < n) && decide (j < n) && decide (Region.ready md ops listed = [i, j]) && decide (p.len = q.len) && plB md ops n g p (listed.setIfInBounds i true) && plB md ops n g q (listed.setIfInBounds j true)
def wpPl (P : Program) (ops : Array Oper) (Q : Exit → Act → World → Prop) (S : World → Prop) (L : Act → World → Prop) : Pl → Act → World → Prop
  | .fin, a, w => L a w
  | .rd i p, a, w => ∃ o v, ops[i]? = some o ∧ YieldsIf P ops S o v a ∧ wpPl P ops Q S L p (a.put o.dst v) w
  | .wr i p, a, w => wpOp P ops Q i (fun a' w' => S w' ∧ wpPl P ops Q S L p a' w') a w
  | .two i p j q, a, w => wpOp P ops Q i (fun a' w' => S w' ∧ wpPl P ops Q S L p a' w') a w ∧ wpOp P ops Q j (fun a' w' => S w' ∧ wpPl P ops Q S L q a' w') a w
theorem wpAnyT_pl {n : Nat} {tl : List Oper} (hsel : Region.noSelect ops = true) (hs : Region.sinkB md ops n = true) (hc : Region.chainB md ops n = true) (hn : n < ops.size) (hQ : ∀ c a d v w, Q (.panic c) (Act.put a d v) w → Q (.panic c) a w) (htl : ∀ j, tl[j]? = ops[n + j]?) :
    ∀ (plan : Pl) (listed : Array Bool) (a : Act) (w : World), HeadInv md ops n listed → plB md ops n tl.length plan listed = true → S w →
      wpPl P ops Q S (fun a w => wpList P ops Q tl a w) plan a w → wpAnyT P md ops Q S n (plan.len + tl.length) listed a w
  | .fin, listed, a, w, inv, hB, hS, h => by
    rw [Pl.len, Nat.zero_add]
    exact wpAnyT_of_seq tl n listed a w (Nat.le_refl _) htl hB h
  | .rd i t, listed, a, w, inv, hB, hS, h => by
    simp only [plB, Bool.and_eq_true, decide_eq_true_eq] at hB
    obtain ⟨⟨⟨hin, hr⟩, hf⟩, hB'⟩ := hB
    obtain ⟨o, v, ho, hy, hk⟩ := h
    have hr' : i ∈ Region.ready md ops listed := by simpa using hr
    rw [Pl.len, show t.len + 1 + tl.length = (t.len + tl.length) + 1 by omega]
    exact wpAnyT_first ho (Region.noSelect_spec hsel) (fun c a w h => hQ c a _ _ w h) hs hc hn hin _ listed a w inv (Region.free_spec ho hf) hr' hy hS
      (wpAnyT_pl hsel hs hc hn hQ htl t _ _ w (inv.set hr' hin) hB' hS hk)
  | .wr i t, listed, a, w, inv, hB, hS, h => by
    simp only [plB, Bool.and_eq_true, decide_eq_true_eq] at hB
    obtain ⟨⟨hin, hone⟩, hB'⟩ := hB
    have hr' : i ∈ Region.ready md ops listed := by rw [hone]; simp
    rw [Pl.len, show t.len + 1 + tl.length = (t.len + tl.length) + 1 by omega]
    refine ⟨fun h1 => (by rw [h1] at hr'; cases hr'), fun j hj => ?_⟩
    rw [hone] at hj
    obtain rfl : j = i := by simpa using hj
    exact wpOp_mono (fun a' w' h' => ⟨fun _ => h'.1, wpAnyT_pl hsel hs hc hn hQ htl t _ a' w' (inv.set hr' hin) hB' h'.1 h'.2⟩) h
  | .two i p j q, listed, a, w, inv, hB, hS, h => by
    simp only [plB, Bool.and_eq_true, decide_eq_true_eq] at hB
    obtain ⟨⟨⟨⟨⟨hin, hjn⟩, htwo⟩, hlen⟩, hB1⟩, hB2⟩ := hB
    have hri : i ∈ Region.ready md ops listed := by rw [htwo]; simp
    have hrj : j ∈ Region.ready md ops listed := by rw [htwo]; simp
    rw [Pl.len, show p.len + 1 + tl.length = (p.len + tl.length) + 1 by omega]
    refine ⟨fun h1 => (by rw [h1] at hri; cases hri), fun k hk => ?_⟩
    rw [htwo] at hk
    rcases List.mem_cons.1 hk with rfl | hk
    · exact wpOp_mono (fun a' w' h' => ⟨fun _ => h'.1, wpAnyT_pl hsel hs hc hn hQ htl p _ a' w' (inv.set hri hin) hB1 h'.1 h'.2⟩) h.1
    · obtain rfl : k = j := by simpa using hk
      rw [hlen]
      exact wpOp_mono (fun a' w' h' => ⟨fun _ => h'.1, wpAnyT_pl hsel hs hc hn hQ htl q _ a' w' (inv.set hrj hjn) hB2 h'.1 h'.2⟩) h.2
def plTailB (md : Region.Mode) (ops : Array Oper) (n : Nat) (plan : Pl) : Bool :=
  Region.noSelect ops && decide (n < ops.size) && decide (plan.len = n) && Region.sinkB md ops n && Region.chainB md ops n && plB md ops n (ops.size - n) plan (Array.replicate ops.size false)
theorem wp_region_pl {id : Nat} {a : Act} {w : World} {l : List Oper} (n : Nat) (plan : Pl) (S : World → Prop) (hm : P.follows .mixedOrders = true) (hB : plTailB .any l.toArray n plan = true) (hQ : ∀ c a d v w, Q (.panic c) (Act.put a d v) w → Q (.panic c) a w) (hS : S w.drew)
    (h : wpPl P l.toArray Q S (fun a' w' => wpList P l.toArray Q (l.drop n) a' w') plan a w.drew) : (Code.region id l.toArray true).wp P Q a w := by
  simp only [plTailB, Bool.and_eq_true, decide_eq_true_eq] at hB
  obtain ⟨⟨⟨⟨⟨hsel, hn⟩, hpl⟩, hs⟩, hc⟩, hp⟩ := hB
  have hn' : n < l.length := by simpa using hn
  have hdl : (l.drop n).length = l.toArray.size - n := by simp
  have inv0 : HeadInv .any l.toArray n (Array.replicate l.toArray.size false) :=
    ⟨by simp, fun j oj _ hl => (by rw [getD_replicate_false] at hl; cases hl), fun t _ ht => getD_in (by simpa using ht) (getD_replicate_false _ _)⟩
  have H := wpAnyT_pl (md := .any) (tl := l.drop n) hsel hs hc hn hQ (fun j => by simp [List.getElem?_drop]) plan _ a w.drew inv0 (by rw [hdl]; exact hp) hS h
  refine wp_region_any hm ?_
  have H2 := wpAny_of_T _ _ _ _ H
  rw [hdl, hpl, show n + (l.toArray.size - n) = l.toArray.size by omega] at H2
  exact H2
theorem wpPl_read {L : Act → World → Prop} {i : Nat} {o : Oper} {t : Pl} {a : Act} {w : World} {v : Value} (ho : ops[i]? = some o) (hg : o.guard = none) (hy : ∀ w', S w' → (execOp a.eval o).run P w' = .ok (.value v) w')
    (h : ∀ K : Act → Prop, (∀ a, wpPl P ops Q S L t a w → K a) → K (a.put o.dst v)) : wpPl P ops Q S L (.rd i t) a w :=
  ⟨o, v, ho, .inl ⟨by simp [Region.wanted, hg], hy⟩, h _ fun _ h => h⟩
theorem wpPl_readG {L : Act → World → Prop} {i : Nat} {o : Oper} {t : Pl} {a : Act} {w : World} {v : Value} (ho : ops[i]? = some o) (hg : Region.wanted o (yielded ops a.tmps) = true) (hy : ∀ w', S w' → (execOp a.eval o).run P w' = .ok (.value v) w')
    (h : ∀ K : Act → Prop, (∀ a, wpPl P ops Q S L t a w → K a) → K (a.put o.dst v)) : wpPl P ops Q S L (.rd i t) a w :=
  ⟨o, v, ho, .inl ⟨hg, hy⟩, h _ fun _ h => h⟩
theorem wpPl_write {L : Act → World → Prop} {i : Nat} {o : Oper} {t : Pl} {a : Act} {w : World} (ho : ops[i]? = some o)
    (h : ∀ K : Act → World → Prop, Shut (∀ a w, S w → wpPl P ops Q S L t a w → K a w) → if Region.wanted o (yielded ops a.tmps) = true then Oper.wp P o a w K Q else K (a.put o.dst undef) w) : wpPl P ops Q S L (.wr i t) a w :=
  wpOp_step ho (fun K hK => h K (fun a w hS hW => hK a w ⟨hS, hW⟩))
theorem wpPl_two {L : Act → World → Prop} {i j : Nat} {oi oj : Oper} {p q : Pl} {a : Act} {w : World} (hi : ops[i]? = some oi) (hj : ops[j]? = some oj)
    (h1 : ∀ K : Act → World → Prop, Shut (∀ a w, S w → wpPl P ops Q S L p a w → K a w) → if Region.wanted oi (yielded ops a.tmps) = true then Oper.wp P oi a w K Q else K (a.put oi.dst undef) w)
    (h2 : ∀ K : Act → World → Prop, Shut (∀ a w, S w → wpPl P ops Q S L q a w → K a w) → if Region.wanted oj (yielded ops a.tmps) = true then Oper.wp P oj a w K Q else K (a.put oj.dst undef) w) : wpPl P ops Q S L (.two i p j q) a w :=
  ⟨wpOp_step hi (fun K hK => h1 K (fun a w hS hW => hK a w ⟨hS, hW⟩)), wpOp_step hj (fun K hK => h2 K (fun a w hS hW => hK a w ⟨hS, hW⟩))⟩
end
end Go.Proofs.YtjbepnkchoaipaaGreat
