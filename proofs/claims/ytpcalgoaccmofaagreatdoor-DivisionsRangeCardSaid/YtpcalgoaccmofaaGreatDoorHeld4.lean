/- As Held3; behind what writes more may be known than ahead of it (T, which says no less than S): so a load of what a call has turned is a read. -/
import Derived.Test.YtpcalgoaccmofaaGreatDoorHeld3
namespace Go.Proofs.YtpcalgoaccmofaaGreatDoor
open Go
section
variable {P : Program} {ops : Array Oper} {Q : Exit → Act → World → Prop} {md : Region.Mode} {S : World → Prop}
theorem wpAnyT_weak {S T : World → Prop} (hTS : ∀ w, T w → S w) {n : Nat} : ∀ (fuel : Nat) (listed : Array Bool) (a : Act) (w : World), wpAnyT P md ops Q T n fuel listed a w → wpAnyT P md ops Q S n fuel listed a w
  | 0, _, _, _, h => h
  | fuel + 1, _, _, _, h => ⟨h.1, fun i hi => wpOp_mono (fun a' w' h' => ⟨fun hl => hTS _ (h'.1 hl), wpAnyT_weak hTS fuel _ a' w' h'.2⟩) (h.2 i hi)⟩
def wpPm (P : Program) (ops : Array Oper) (Q : Exit → Act → World → Prop) (L : Act → World → Prop) : Pl → (World → Prop) → Act → World → Prop
  | .fin, _, a, w => L a w
  | .rd i p, S, a, w => ∃ o v, ops[i]? = some o ∧ YieldsIf P ops S o v a ∧ wpPm P ops Q L p S (a.put o.dst v) w
  | .wr i p, S, a, w => wpOp P ops Q i (fun a' w' => ∃ T : World → Prop, (∀ w, T w → S w) ∧ T w' ∧ wpPm P ops Q L p T a' w') a w
  | .two i p j q, S, a, w => wpOp P ops Q i (fun a' w' => ∃ T : World → Prop, (∀ w, T w → S w) ∧ T w' ∧ wpPm P ops Q L p T a' w') a w ∧ wpOp P ops Q j (fun a' w' => ∃ T : World → Prop, (∀ w, T w → S w) ∧ T w' ∧ wpPm P ops Q L q T a' w') a w
theorem wpAnyT_pm {n : Nat} {tl : List Oper} (hsel : Region.noSelect ops = true) (hs : Region.sinkB md ops n = true) (hc : Region.chainB md ops n = true) (hn : n < ops.size) (hQ : ∀ c a d v w, Q (.panic c) (Act.put a d v) w → Q (.panic c) a w) (htl : ∀ j, tl[j]? = ops[n + j]?) :
    ∀ (plan : Pl) (S : World → Prop) (listed : Array Bool) (a : Act) (w : World), HeadInv md ops n listed → plB md ops n tl.length plan listed = true → S w →
      wpPm P ops Q (fun a w => wpList P ops Q tl a w) plan S a w → wpAnyT P md ops Q S n (plan.len + tl.length) listed a w
  | .fin, S, listed, a, w, inv, hB, hS, h => by
    rw [Pl.len, Nat.zero_add]
    exact wpAnyT_of_seq tl n listed a w (Nat.le_refl _) htl hB h
  | .rd i t, S, listed, a, w, inv, hB, hS, h => by
    simp only [plB, Bool.and_eq_true, decide_eq_true_eq] at hB
    obtain ⟨⟨⟨hin, hr⟩, hf⟩, hB'⟩ := hB
    obtain ⟨o, v, ho, hy, hk⟩ := h
    have hr' : i ∈ Region.ready md ops listed := by simpa using hr
    rw [Pl.len, show t.len + 1 + tl.length = (t.len + tl.length) + 1 by omega]
    exact wpAnyT_first ho (Region.noSelect_spec hsel) (fun c a w h => hQ c a _ _ w h) hs hc hn hin _ listed a w inv (Region.free_spec ho hf) hr' hy hS
      (wpAnyT_pm hsel hs hc hn hQ htl t S _ _ w (inv.set hr' hin) hB' hS hk)
  | .wr i t, S, listed, a, w, inv, hB, hS, h => by
    simp only [plB, Bool.and_eq_true, decide_eq_true_eq] at hB
    obtain ⟨⟨hin, hone⟩, hB'⟩ := hB
    have hr' : i ∈ Region.ready md ops listed := by rw [hone]; simp
    rw [Pl.len, show t.len + 1 + tl.length = (t.len + tl.length) + 1 by omega]
    refine ⟨fun h1 => (by rw [h1] at hr'; cases hr'), fun j hj => ?_⟩
    rw [hone] at hj
    obtain rfl : j = i := by simpa using hj
    exact wpOp_mono (fun a' w' ⟨T, hTS, h1, h2⟩ => ⟨fun _ => hTS _ h1, wpAnyT_weak hTS _ _ _ _ (wpAnyT_pm hsel hs hc hn hQ htl t T _ a' w' (inv.set hr' hin) hB' h1 h2)⟩) h
  | .two i p j q, S, listed, a, w, inv, hB, hS, h => by
    simp only [plB, Bool.and_eq_true, decide_eq_true_eq] at hB
    obtain ⟨⟨⟨⟨⟨hin, hjn⟩, htwo⟩, hlen⟩, hB1⟩, hB2⟩ := hB
    have hri : i ∈ Region.ready md ops listed := by rw [htwo]; simp
    have hrj : j ∈ Region.ready md ops listed := by rw [htwo]; simp
    rw [Pl.len, show p.len + 1 + tl.length = (p.len + tl.length) + 1 by omega]
    refine ⟨fun h1 => (by rw [h1] at hri; cases hri), fun k hk => ?_⟩
    rw [htwo] at hk
    rcases List.mem_cons.1 hk with rfl | hk
    · exact wpOp_mono (fun a' w' ⟨T, hTS, h1, h2⟩ => ⟨fun _ => hTS _ h1, wpAnyT_weak hTS _ _ _ _ (wpAnyT_pm hsel hs hc hn hQ htl p T _ a' w' (inv.set hri hin) hB1 h1 h2)⟩) h.1
    · obtain rfl : k = j := by simpa using hk
      rw [hlen]
      exact wpOp_mono (fun a' w' ⟨T, hTS, h1, h2⟩ => ⟨fun _ => hTS _ h1, wpAnyT_weak hTS _ _ _ _ (wpAnyT_pm hsel hs hc hn hQ htl q T _ a' w' (inv.set hrj hjn) hB2 h1 h2)⟩) h.2
theorem wp_region_pm {id : Nat} {a : Act} {w : World} {l : List Oper} (n : Nat) (plan : Pl) (S : World → Prop) (hm : P.follows .mixedOrders = true) (hB : plTailB .any l.toArray n plan = true) (hQ : ∀ c a d v w, Q (.panic c) (Act.put a d v) w → Q (.panic c) a w) (hS : S w.drew)
    (h : wpPm P l.toArray Q (fun a' w' => wpList P l.toArray Q (l.drop n) a' w') plan S a w.drew) : (Code.region id l.toArray true).wp P Q a w := by
  simp only [plTailB, Bool.and_eq_true, decide_eq_true_eq] at hB
  obtain ⟨⟨⟨⟨⟨hsel, hn⟩, hpl⟩, hs⟩, hc⟩, hp⟩ := hB
  have hn' : n < l.length := by simpa using hn
  have hdl : (l.drop n).length = l.toArray.size - n := by simp
  have inv0 : HeadInv .any l.toArray n (Array.replicate l.toArray.size false) :=
    ⟨by simp, fun j oj _ hl => (by rw [getD_replicate_false] at hl; cases hl), fun t _ ht => getD_in (by simpa using ht) (getD_replicate_false _ _)⟩
  have H := wpAnyT_pm (md := .any) (tl := l.drop n) hsel hs hc hn hQ (fun j => by simp [List.getElem?_drop]) plan S _ a w.drew inv0 (by rw [hdl]; exact hp) hS h
  refine wp_region_any hm ?_
  have H2 := wpAny_of_T _ _ _ _ H
  rw [hdl, hpl, show n + (l.toArray.size - n) = l.toArray.size by omega] at H2
  exact H2
theorem wpPm_read {L : Act → World → Prop} {i : Nat} {o : Oper} {t : Pl} {a : Act} {w : World} {v : Value} (ho : ops[i]? = some o) (hg : Region.wanted o (yielded ops a.tmps) = true) (hy : ∀ w', S w' → (execOp a.eval o).run P w' = .ok (.value v) w')
    (h : ∀ K : Act → Prop, (∀ a, wpPm P ops Q L t S a w → K a) → K (a.put o.dst v)) : wpPm P ops Q L (.rd i t) S a w :=
  ⟨o, v, ho, .inl ⟨hg, hy⟩, h _ fun _ h => h⟩
theorem wpPm_skip {L : Act → World → Prop} {i : Nat} {o : Oper} {t : Pl} {a : Act} {w : World} (ho : ops[i]? = some o) (hg : Region.wanted o (yielded ops a.tmps) = false)
    (h : ∀ K : Act → Prop, (∀ a, wpPm P ops Q L t S a w → K a) → K (a.put o.dst undef)) : wpPm P ops Q L (.rd i t) S a w :=
  ⟨o, undef, ho, .inr ⟨hg, rfl⟩, h _ fun _ h => h⟩
theorem wpPm_write {L : Act → World → Prop} {i : Nat} {o : Oper} {t : Pl} {a : Act} {w : World} (ho : ops[i]? = some o)
    (h : ∀ K : Act → World → Prop, Shut (∀ (a : Act) (w : World) (T : World → Prop), (∀ w, T w → S w) → T w → wpPm P ops Q L t T a w → K a w) → if Region.wanted o (yielded ops a.tmps) = true then Oper.wp P o a w K Q else K (a.put o.dst undef) w) : wpPm P ops Q L (.wr i t) S a w :=
  wpOp_step ho (fun K hK => h K (fun a w T hT hS hW => hK a w ⟨T, hT, hS, hW⟩))
theorem wpPm_two {L : Act → World → Prop} {i j : Nat} {oi oj : Oper} {p q : Pl} {a : Act} {w : World} (hi : ops[i]? = some oi) (hj : ops[j]? = some oj)
    (h1 : ∀ K : Act → World → Prop, Shut (∀ (a : Act) (w : World) (T : World → Prop), (∀ w, T w → S w) → T w → wpPm P ops Q L p T a w → K a w) → if Region.wanted oi (yielded ops a.tmps) = true then Oper.wp P oi a w K Q else K (a.put oi.dst undef) w)
    (h2 : ∀ K : Act → World → Prop, Shut (∀ (a : Act) (w : World) (T : World → Prop), (∀ w, T w → S w) → T w → wpPm P ops Q L q T a w → K a w) → if Region.wanted oj (yielded ops a.tmps) = true then Oper.wp P oj a w K Q else K (a.put oj.dst undef) w) : wpPm P ops Q L (.two i p j q) S a w :=
  ⟨wpOp_step hi (fun K hK => h1 K (fun a w T hT hS hW => hK a w ⟨T, hT, hS, hW⟩)), wpOp_step hj (fun K hK => h2 K (fun a w T hT hS hW => hK a w ⟨T, hT, hS, hW⟩))⟩
end
end Go.Proofs.YtpcalgoaccmofaaGreatDoor
