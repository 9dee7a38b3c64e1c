import Derived.Test.YtojmckbpafkagaaGreatDoorEJ
import Derived.OrdersIn
import Derived.TacticsIn
import Derived.OwnWalkIn
import Derived.RangeFuncCalls
import Derived.RangeFuncWrites
/- Code within a ROUND of a range over a function, run by the evaluator. -/
namespace Go.Ev
open Go Go.RowKit
set_option linter.unusedVariables false
set_option linter.unusedSimpArgs false
def noDef (o : Oper) : Bool := match o.op with | .defer _ => false | _ => true
theorem noDef_spec {o : Oper} (h : noDef o = true) : ∀ c, o.op ≠ .defer c := fun c e => by simp [noDef, e] at h
abbrev WR (l : Nat) : Fence := Fence.wide.inRound l
section
variable {P : Program} {l n : Nat} {ops : Array Oper} {Q : Exit → Act → World → Prop} {md : Region.Mode}
theorem rowsIn_of {row : String} {args : Array Value} {w : World} {R : Value → World → Prop} (h : Rows P row args w R) : RowsIn (WR l) n P row args w R :=
  fun c cs _ => let ⟨v, w', r, s⟩ := h c cs; ⟨v, w', r, stepsIn_wide.2 s⟩
theorem operIn_of {o : Oper} {a : Act} {w : World} {K : Act → World → Prop} (hd : noDef o = true) (h : o.wp P a w K Q) : o.wpIn (WR l) n P a w K Q := by
  refine ⟨fun _ _ => trivial, ?_⟩
  rw [Oper.semAt_plain _ _ _ (noDef_spec hd)]
  unfold Oper.wp at h
  generalize (execOp a.eval o).run P w = r at h ⊢
  cases r with
  | ok x w' =>
    cases x with
    | value v => exact h
    | skip => exact h
    | defer d => exact h
    | enter f args => exact ⟨(fun e => nomatch e), CallsIn.mono (CallsIn.inRound l (callsIn_wide.2 h)) fun e w'' he => (by cases e <;> exact he)⟩
    | row row args => exact ⟨(fun e => nomatch e), rowsIn_of h⟩
    | _ => exact h.elim
  | halt x w' => cases x with
    | panic v => exact h
    | _ => exact h.elim
theorem wpOpIn_of {i : Nat} {K : Act → World → Prop} {a : Act} {w : World} (hl : ¬ LetsOut Q) (hd : ∀ o, ops[i]? = some o → noDef o = true) (h : wpOp P ops Q i K a w) : wpOpIn (WR l) n P ops Q i K a w := by
  unfold wpOp at h
  unfold wpOpIn
  cases ho : ops[i]? with
  | none => rw [ho] at h; exact h
  | some o =>
    rw [ho] at h
    simp only at h ⊢
    by_cases hw : Region.wanted o (yielded ops a.tmps) = true
    · rw [if_pos hw] at h ⊢
      rcases h with h | ⟨_, h⟩
      · exact operIn_of (hd o ho) h
      · exact absurd h hl
    · rw [if_neg hw] at h ⊢; exact ⟨fun _ _ => trivial, h⟩
theorem wpAnyIn_of (hl : ¬ LetsOut Q) (hd : ∀ (i : Nat) o, ops[i]? = some o → noDef o = true) : ∀ (fuel : Nat) (listed : Array Bool) (a : Act) (w : World), wpAny P md ops Q fuel listed a w → wpAnyIn (WR l) n P md ops Q fuel listed a w
  | 0, _, _, _, h => h
  | fuel + 1, listed, a, w, h => ⟨h.1, fun i hi => wpOpIn_mono (fun a w hk => wpAnyIn_of hl hd fuel _ a w hk) (wpOpIn_of hl (hd i) (h.2 i hi))⟩
theorem wpListIn_of (hl : ¬ LetsOut Q) : ∀ (L : List Oper) (a : Act) (w : World), (∀ o ∈ L, noDef o = true) → wpList P ops Q L a w → wpListIn (WR l) n P ops Q L a w
  | [], _, _, _, h => h
  | o :: L, a, w, hd, h => by
    unfold wpList at h
    unfold wpListIn
    by_cases hw : Region.wanted o (yielded ops a.tmps) = true
    · rw [if_pos hw] at h ⊢
      rcases h with h | ⟨_, h⟩
      · exact Oper.wpIn_mono (fun a w hk => wpListIn_of hl L a w (fun o ho => hd o (by simp [ho])) hk) (operIn_of (hd o (by simp)) h)
      · exact absurd h hl
    · rw [if_neg hw] at h ⊢
      exact ⟨fun _ _ => trivial, wpListIn_of hl L _ w (fun o ho => hd o (by simp [ho])) h⟩
end
section
variable {P : Program} {call : Caller} {N : Nat} {l n : Nat}
theorem regOIn_ok (hC : CallerOk P call) (hm : P.follows .mixedOrders = true) {id : Nat} {base : Bas} {φ : Emb} {pl : Option Plan} {ops : Array Oper} {draw : Bool} {tm tm' : Tr Value} {H H' : Heap} {w : World} {a : Act} (hpk : draw = true → ∀ p, pl = some p → planOk P ops.toList p = true) (hH : HR base φ H w) (hT : TR N φ tm a) (h : regO P call N pl ops draw tm H = .ok tm' H') (hnd : ops.toList.all noDef = true)
    {Q : Exit → Act → World → Prop} (hp : ∀ c a w, ¬ Q (.panic c) a w) (hl : ¬ LetsOut Q) (hQ : ∀ φ' a' w', Ext φ φ' → HR base φ' H' w' → FR φ φ' H H' w w' → TR N φ' tm' a' → Q .normal a' w') : (Code.region id ops draw).wpIn (WR l) n P Q a w := by
  have hd1 : ∀ o ∈ ops.toList, noDef o = true := List.all_eq_true.1 hnd
  unfold regO at h
  split at h
  · exact wpIn_region_list (wpListIn_of hl _ _ _ hd1 (seqO_ok hC _ φ tm H tm' H' w a hH hT h hQ))
  · have hops : ops = ops.toList.toArray := by simp
    have inv0 : ∀ (l : List Oper), CInv .any l.toArray (setAll (Array.replicate l.toArray.size false) (idx [])) := fun l =>
      ⟨by simp [setAll, idx], fun j oj _ hl => (by simp only [idx, List.map_nil, setAll] at hl; rw [getD_replicate_false] at hl; cases hl), fun t ht ht2 => absurd ht2 (by omega)⟩
    split at h <;> try (cases h; done)
    rename_i x
    obtain ⟨p, B⟩ := x
    split at h <;> try (cases h; done)
    rename_i tm1 H1 rs1 h1
    split at h <;> try (cases h; done)
    rename_i hcl
    have hd2 : ∀ (i : Nat) o, ops[i]? = some o → noDef o = true := fun i o ho => hd1 o (by
      have := Array.mem_of_getElem? ho
      simpa using this)
    rw [hops] at hd2
    rw [hops]
    rw [hops] at h1 h
    have hB : planOk P ops.toList (p, B) = true := hpk rfl _ rfl
    simp only [planOk, Bool.and_eq_true, decide_eq_true_eq] at hB
    obtain ⟨b1, ⟨b2, b3⟩, b4, b5⟩ := hB
    have hbR : ∀ b ∈ B, b < ops.toList.toArray.size := fun b hb => of_decide_eq_true (List.all_eq_true.1 b4 b hb)
    have htl := tailO_ok (ops := ops.toList.toArray) hbR
    have htlen : (tailO ops.toList.toArray B).length = B.length := by simpa using congrArg List.length htl
    have main := planR_ok (md := .any) (tl := tailO ops.toList.toArray B) hC (Q := Q) b1 hbR htl hp hl b2 (fun i c hi => cleanL_mem hcl i c hi) (φ0 := φ) (H0 := H) (w0 := w.drew) hH.drew
      (fun φ1 a1 w1 k1 k2 k3 k4 => seqO_ok hC _ φ1 tm1 H1 tm' H' w1 a1 k2 k4 h fun φ2 a2 w2 e1 e2 e3 e4 => hQ φ2 a2 w2 (k1.trans e1) e2 (((FR.drew φ H w).trans (Ext.refl φ) k1 k3).trans k1 e1 e3) e4)
      (p.length + (als p).length) p [] (Array.replicate ops.toList.toArray.size false) φ tm H [] [] w.drew a (p.length + (tailO ops.toList.toArray B).length) (by simp) b5 (by simp) (inv0 _) (fun e he => he) (by simp [idx]) (by simp [idx])
      ⟨by simp, by simp⟩ (Ext.refl φ) hH.drew (FR.refl φ H w.drew) hT h1 rfl (by simp)
    refine wpIn_region_any hm (wpAnyIn_of hl hd2 _ _ _ _ ?_)
    have H2 := wpAny_of_R _ _ _ _ main
    rw [htlen, b3] at H2
    exact H2
end
/-! ## loops within a round -/
def LoopAtIn (F : Fence) (n : Nat) (P : Program) (c : Code) (Q : Exit → Act → World → Prop) (a : Act) (w : World) : Prop :=
  ∀ (b : Frame) (k : List Item) (cs : List Frame), b.roundOf = F.round → F.fn b.fn → F.room (cs.length + 1 + n) → ∃ e a' w', Q e a' w' ∧ ArrivesIn (Machine.fenced P F) P (lone (b.atR a (.code c :: .inLoop c :: k)) cs w) b k cs e a' w'
theorem LoopAtIn.wp {F : Fence} {n : Nat} {P : Program} {c : Code} {Q : Exit → Act → World → Prop} {a : Act} {w : World} (h : LoopAtIn F n P c Q a w) : (Code.loop c).wpIn F n P Q a w := by
  intro b k cs hro hb hr
  obtain ⟨e, a', w', hq, harr⟩ := h b k cs hro hb hr
  exact ⟨e, a', w', hq, .of_steps (.one (fenced_calm hb hr rfl) stepR_loop) harr⟩
theorem LoopAtIn.mono {F : Fence} {n : Nat} {P : Program} {c : Code} {Q Q' : Exit → Act → World → Prop} {a : Act} {w : World} (h : LoopAtIn F n P c Q a w) (hq : ∀ e a w, Q e a w → Q' e a w) : LoopAtIn F n P c Q' a w :=
  fun b k cs hro hb hr => let ⟨e, a', w', q, r⟩ := h b k cs hro hb hr; ⟨e, a', w', hq _ _ _ q, r⟩
theorem LoopAtIn.unroll {F : Fence} {n : Nat} {P : Program} {c : Code} {Q : Exit → Act → World → Prop} {a : Act} {w : World} (h : c.wpIn F n P (Exit.then (LoopAtIn F n P c Q) Q) a w) : LoopAtIn F n P c Q a w := by
  intro b k cs hro hb hr
  obtain ⟨e, a₁, w₁, hq, harr⟩ := h b (.inLoop c :: k) cs hro hb hr
  cases e with
  | normal =>
    obtain ⟨e₂, a₂, w₂, hq₂, harr₂⟩ := hq b k cs hro hb hr
    exact ⟨e₂, a₂, w₂, hq₂, .of_steps (StepsIn.trans harr (.one (fenced_calm hb hr rfl) stepR_inLoop)) harr₂⟩
  | exit id => exact ⟨_, a₁, w₁, hq, .pass (x := .inLoop c) rfl (fun _ _ => .inl (by simp)) harr⟩
  | goto l => exact ⟨_, a₁, w₁, hq, .pass (x := .inLoop c) rfl (fun _ _ => .inl (by simp)) harr⟩
  | ret => exact ⟨_, a₁, w₁, hq, .pass (x := .inLoop c) rfl (fun _ _ => .inl (by simp)) harr⟩
  | panic ch => exact ⟨_, a₁, w₁, hq, .pass (x := .inLoop c) rfl (fun _ _ => .inl (by simp)) harr⟩
  | outgrown => exact ⟨_, a₁, w₁, hq, .pass (x := .inLoop c) rfl (fun _ _ => .inl (by simp)) harr⟩
/-! ## code within a round -/
/-- No deferred calls, no range over a function, no scope. -/
noncomputable def codeND (c : Code) : Bool :=
  Code.rec (motive := fun _ => Bool) true (fun id ops draw => ops.toList.all noDef) (fun _ _ x y => and x y) (fun _ _ _ x y => and x y) (fun _ _ x => x) (fun _ x => x) (fun _ _ _ _ _ _ => false) (fun _ => true) (fun _ x => false) (fun _ => true) (fun _ => true) true (fun _ => true) c
def RunOkIn (P : Program) (l n : Nat) (body : Body) : Prop := ∀ tb N c tm H e tm' H', allR P tb c = true → codeND c = true → body tb N c tm H = .ok e tm' H' →
  ∀ base φ w a, HR base φ H w → TR N φ tm a → c.wpIn (WR l) n P (RQ base φ H w N e tm' H') a w ∧ ∀ c0, c = .loop c0 → LoopAtIn (WR l) n P c0 (RQ base φ H w N e tm' H') a w
section
variable {P : Program} {T : Tab} {hk : Hook} {ih : Body} {l n : Nat}
theorem codeStepIn_ok (hm : P.follows .mixedOrders = true) (hTab : TabOk P T) (hK : HookOk P hk) (hI : RunOk P ih) (hJ : RunOkIn P l n ih) : RunOkIn P l n (codeStep P T hk ih) := by
  intro tb N c tm H e tm' H' hall hnd h base φ w a hH hT
  cases c <;> simp only [codeStep] at h <;> try (cases h; done)
  case skip =>
    injection h with h1 h2 h3; subst h1; subst h2; subst h3
    exact ⟨wpIn_skip (RQ.here hH hT), fun c0 hc => by cases hc⟩
  case label l =>
    injection h with h1 h2 h3; subst h1; subst h2; subst h3
    exact ⟨wpIn_label (RQ.here hH hT), fun c0 hc => by cases hc⟩
  case exit id =>
    injection h with h1 h2 h3; subst h1; subst h2; subst h3
    exact ⟨wpIn_exit (RQ.here (e := .exit id) hH hT), fun c0 hc => by cases hc⟩
  case ret =>
    injection h with h1 h2 h3; subst h1; subst h2; subst h3
    exact ⟨wpIn_ret (RQ.here (e := .ret) hH hT), fun c0 hc => by cases hc⟩
  case region id ops draw =>
    split at h <;> try (cases h; done)
    rename_i tm1 H1 hr
    injection h with h1 h2 h3; subst h1; subst h2; subst h3
    have hC := callH_ok hTab hK hI
    exact ⟨regOIn_ok hC hm (fun hd p hp => by subst hd; simpa only [allR, hp] using hall) hH hT hr hnd (fun c a w => RQ.no_panic c a w) RQ.no_out fun φ1 a1 w1 k1 k2 k3 k4 => ⟨rfl, φ1, k1, k2, k3, k4⟩, fun c0 hc => by cases hc⟩
  case scope x => cases hnd
  case cond x y z =>
    have hall' : (and (allR P tb y) (allR P tb z)) = true := hall
    have hnd' : (and (codeND y) (codeND z)) = true := hnd
    rw [Bool.and_eq_true] at hall' hnd'
    split at h <;> try (cases h; done)
    · rename_i hx
      have k2 := hJ _ _ _ _ _ _ _ _ hall'.1 hnd'.1 h
      refine ⟨?_, fun c0 hc => by cases hc⟩
      have hxv := hT.ev hx
      generalize hxe : a.eval x = xv at hxv
      cases hxv
      exact wpIn_cond hxe (k2 base φ w a hH hT).1
    · rename_i hx
      have k2 := hJ _ _ _ _ _ _ _ _ hall'.2 hnd'.2 h
      refine ⟨?_, fun c0 hc => by cases hc⟩
      have hxv := hT.ev hx
      generalize hxe : a.eval x = xv at hxv
      cases hxv
      exact wpIn_cond hxe (k2 base φ w a hH hT).1
  case seq x y =>
    have hall' : (and (allR P tb x) (allR P tb y)) = true := hall
    have hnd' : (and (codeND x) (codeND y)) = true := hnd
    rw [Bool.and_eq_true] at hall' hnd'
    split at h
    · rename_i tm1 H1 h1
      have k2 := hJ _ _ _ _ _ _ _ _ hall'.1 hnd'.1 h1
      have k4 := hJ _ _ _ _ _ _ _ _ hall'.2 hnd'.2 h
      refine ⟨wpIn_seq (wpIn_mono (k2 base φ w a hH hT).1 (then_ok fun φ1 a1 w1 e1 e2 e3 e4 => ?_)), fun c0 hc => by cases hc⟩
      exact wpIn_mono (k4 base φ1 w1 a1 e2 e4).1 fun e5 a5 w5 hq => hq.from e1 e3
    · rename_i hne
      have k2 := hJ _ _ _ _ _ _ _ _ hall'.1 hnd'.1 h
      refine ⟨wpIn_seq (wpIn_mono (k2 base φ w a hH hT).1 (then_out fun he => ?_)), fun c0 hc => by cases hc⟩
      subst he; exact hne _ _ h
  case loop x =>
    have key : LoopAtIn (WR l) n P x (RQ base φ H w N e tm' H') a w := by
      split at h
      · rename_i tm1 H1 h1
        have k2 := hJ _ _ _ _ _ _ _ _ (show allR P tb x = true from hall) (show codeND x = true from hnd) h1
        have k4 := hJ _ _ _ _ _ _ _ _ hall hnd h
        refine LoopAtIn.unroll (wpIn_mono (k2 base φ w a hH hT).1 (then_ok fun φ1 a1 w1 e1 e2 e3 e4 => ?_))
        exact LoopAtIn.mono ((k4 base φ1 w1 a1 e2 e4).2 x rfl) fun e5 a5 w5 hq => hq.from e1 e3
      · rename_i hne
        have k2 := hJ _ _ _ _ _ _ _ _ (show allR P tb x = true from hall) (show codeND x = true from hnd) h
        refine LoopAtIn.unroll (wpIn_mono (k2 base φ w a hH hT).1 (then_out fun he => ?_))
        subst he; exact hne _ _ h
    exact ⟨key.wp, fun c0 hc => by injection hc with hc; subst hc; exact key⟩
  case block id x =>
    split at h
    · rename_i k tm1 H1 h1
      have k2 := hJ _ _ _ _ _ _ _ _ (show allR P tb x = true from hall) (show codeND x = true from hnd) h1
      split at h
      · rename_i hk1
        have hk1' := Nat.eq_of_beq_eq_true hk1
        subst hk1'
        injection h with h2 h3 h4; subst h2; subst h3; subst h4
        refine ⟨wpIn_block (wpIn_mono (k2 base φ w a hH hT).1 fun e1 a1 w1 hq => ?_), fun c0 hc => by cases hc⟩
        obtain ⟨rfl, φ1, q1, q2, q3, q4⟩ := hq
        simp only [exOf, Exit.inBlock, if_true]
        exact ⟨rfl, φ1, q1, q2, q3, q4⟩
      · rename_i hk1
        have hne : ¬ k = id := fun e => by rw [e] at hk1; simp at hk1
        injection h with h2 h3 h4; subst h2; subst h3; subst h4
        refine ⟨wpIn_block (wpIn_mono (k2 base φ w a hH hT).1 fun e1 a1 w1 hq => ?_), fun c0 hc => by cases hc⟩
        obtain ⟨rfl, φ1, q1, q2, q3, q4⟩ := hq
        simp only [exOf, Exit.inBlock, hne, if_false]
        exact ⟨rfl, φ1, q1, q2, q3, q4⟩
    · rename_i hne
      have k2 := hJ _ _ _ _ _ _ _ _ (show allR P tb x = true from hall) (show codeND x = true from hnd) h
      refine ⟨wpIn_block (wpIn_mono (k2 base φ w a hH hT).1 fun e1 a1 w1 hq => ?_), fun c0 hc => by cases hc⟩
      have he := hq.1
      subst he
      cases e with
      | normal => exact hq
      | ret => exact hq
      | exit k => exact absurd h (hne k _ _)
theorem runIn_ok (hm : P.follows .mixedOrders = true) (hTab : TabOk P T) (hK : HookOk P hk) : ∀ m, RunOkIn P l n (run P T hk m)
  | 0 => fun tb N c tm H e tm' H' _ _ h => by cases h
  | m + 1 => by
    show RunOkIn P l n (codeStepF P T hk (run P T hk m))
    rw [codeStepF_eq]
    exact codeStepIn_ok hm hTab hK (run_ok hm hTab hK m) (runIn_ok hm hTab hK m)
end
end Go.Ev
/- A range over a function, evaluated: the rounds' bodies by the evaluator, at every list that the iterator may hand (so the order needs not be known). -/
namespace Go.Ev
open Go Go.RowKit
set_option linter.unusedVariables false
set_option linter.unusedSimpArgs false
noncomputable def isRow (o : Option ABlk) : Bool := match o with | some (.row ..) => true | _ => false
theorem isRow_inv {o : Option ABlk} (h : isRow o = true) : ∃ v e sz n cs, o = some (.row v e sz n cs) := by
  cases o with
  | none => cases h
  | some b => cases b <;> first | (cases h; done) | exact ⟨_, _, _, _, _, rfl⟩
/-- What lies from i0 on are rows. -/
noncomputable def rowsFrom (i0 : Nat) (H : Heap) : Bool := Nat.rec (motive := fun _ => Bool) true (fun k ih => and (isRow (H.blks.get (Nat.add i0 k))) ih) (Nat.sub H.next i0)
theorem rowsFrom_ok {i0 : Nat} {H : Heap} (h : rowsFrom i0 H = true) : ∀ i, i0 ≤ i → i < H.next → ∃ v e sz n cs, H.blks.get i = some (.row v e sz n cs) := by
  have key : ∀ m, (Nat.rec (motive := fun _ => Bool) true (fun k ih => and (isRow (H.blks.get (Nat.add i0 k))) ih) m : Bool) = true → ∀ k, k < m → isRow (H.blks.get (i0 + k)) = true := by
    intro m
    induction m with
    | zero => intro _ k hk; omega
    | succ m ih =>
      intro hm k hk
      have hm' : (and (isRow (H.blks.get (i0 + m))) (Nat.rec (motive := fun _ => Bool) true (fun k ih => and (isRow (H.blks.get (Nat.add i0 k))) ih) m : Bool)) = true := hm
      rw [Bool.and_eq_true] at hm'
      rcases Nat.lt_succ_iff_lt_or_eq.1 hk with h1 | rfl
      · exact ih hm'.2 k h1
      · exact hm'.1
  intro i h1 h2
  have := key (H.next - i0) h (i - i0) (by omega)
  rw [show i0 + (i - i0) = i by omega] at this
  exact isRow_inv this
theorem rowsFrom_self (H : Heap) : rowsFrom H.next H = true := by
  unfold rowsFrom
  rw [show Nat.sub H.next H.next = 0 from Nat.sub_self _]
  rfl
/-- The blocks ks have not been written since H. -/
noncomputable def keptB (H : Heap) (o : Option ABlk) : Bool := match o with | some (.row v _ _ _ _) => Nat.ble v H.clock | _ => false
noncomputable def stays (ks : List Nat) (H H' : Heap) : Bool := List.rec (motive := fun _ => Bool) true (fun k _ ih => and (keptB H (H'.blks.get k)) ih) ks
theorem stays_ok {H H' : Heap} : ∀ {ks : List Nat}, stays ks H H' = true → ∀ i ∈ ks, ∃ b, H'.blks.get i = some b ∧ b.live ∧ b.ver ≤ H.clock
  | [], _, i, hi => by cases hi
  | k :: ks, h, i, hi => by
    have h' : (and (keptB H (H'.blks.get k)) (stays ks H H')) = true := h
    rw [Bool.and_eq_true] at h'
    rcases List.mem_cons.1 hi with rfl | hi
    · have h1 := h'.1
      generalize H'.blks.get i = o at h1
      cases o with
      | none => cases h1
      | some b => cases b <;> first | (cases h1; done) | exact ⟨_, rfl, trivial, Nat.le_of_ble_eq_true h1⟩
    · exact stays_ok h'.2 i hi
noncomputable def round (body : Body) (tb : Tr Plan) (N : Nat) (code : Code) (tmA : List Value → Tr Value) (i0 : Nat) (ks : List Nat) (x : List Value) (H : Heap) : Option Heap :=
  match body tb N code (tmA x) H with
  | .ok .normal _ H' => match and (rowsFrom i0 H') (stays ks H H') with | true => some H' | false => none
  | _ => none
noncomputable def foldR (rd : List Value → Heap → Option Heap) : List (List Value) → Heap → Option Heap
  | [], H => some H
  | x :: l, H => match rd x H with | some H' => foldR rd l H' | none => none
theorem foldR_snoc {rd : List Value → Heap → Option Heap} {x : List Value} : ∀ {l : List (List Value)} {H H1 H2 : Heap}, foldR rd l H = some H1 → rd x H1 = some H2 → foldR rd (l ++ [x]) H = some H2
  | [], H, H1, H2, h, k => by
    injection h with h; subst h
    simp [foldR, k]
  | y :: l, H, H1, H2, h, k => by
    simp only [List.cons_append, foldR] at h ⊢
    cases hy : rd y H with
    | none => rw [hy] at h; cases h
    | some H3 => rw [hy] at h; exact foldR_snoc (l := l) h k
theorem foldR_at {rd : List Value → Heap → Option Heap} : ∀ {xs : List (List Value)} {H H' : Heap}, foldR rd xs H = some H' → ∀ k, k < xs.length → ∀ Hk, foldR rd (xs.take k) H = some Hk → ∃ x Hk1, xs[k]? = some x ∧ rd x Hk = some Hk1 ∧ foldR rd (xs.take (k + 1)) H = some Hk1
  | [], H, H', h, k, hk, _, _ => absurd hk (by simp)
  | x :: xs, H, H', h, k, hk, Hk, h1 => by
    simp only [foldR] at h
    cases hx : rd x H with
    | none => rw [hx] at h; cases h
    | some H1 =>
      rw [hx] at h
      cases k with
      | zero =>
        simp only [List.take_zero, foldR] at h1
        injection h1 with h1; subst h1
        exact ⟨x, H1, rfl, hx, by simp [foldR, hx]⟩
      | succ k =>
        simp only [List.take_succ_cons, foldR, hx] at h1
        obtain ⟨y, Hk1, e1, e2, e3⟩ := foldR_at h k (by simpa using hk) Hk h1
        exact ⟨y, Hk1, by simpa using e1, e2, by simp only [List.take_succ_cons, foldR, hx]; exact e3⟩
/-- What the rounds must leave. -/
def KpB (bs : List Nat) (W W' : World) : Prop := ∀ B ∈ bs, W'.heap[B]? = W.heap[B]?
section
variable {P : Program}
/-- What an iterator gives that hands N elements, in this order, and looks at the blocks bs. -/
def Gives (P : Program) (gf : Nat) (lb : Array Value) (N : Nat) (encs : Nat → Array Value) (bs : List Nat) (w : World) : Prop :=
  ∀ (l : Nat) (J : Nat → World → Prop) (W : World), Below w.heap.size w W →
    (∀ k W, k < N → J k W → YieldAt Fence.wide 3 P l (encs k) W fun e W' => e = .returned (.bool true) ∧ J (k + 1) W' ∧ KpB bs W W') → J 0 W →
    CallsIn Fence.wide 4 P gf (#[.func (.yield l) #[] #[]] ++ lb) W fun e W' => (∃ v, e = .returned v) ∧ J N W'
/-- The statement over such an iterator: one walk of the body for each element, in order. -/
theorem range_ord {g : Operand} {ps : Array Tmp} {assign bc : Code} {a : Act} {w : World} {Q : Exit → Act → World → Prop} {gf : Nat} {lb : Array Value} (hg : a.eval g = .func (.func gf) #[] lb) (eg : ∀ args w, (callFunc gf args).run P w = .ok (.enter gf args) w)
    {N : Nat} {encs : Nat → Array Value} {bs : List Nat} (hit : Gives P gf lb N encs bs w) (hbs : ∀ B ∈ bs, B < w.heap.size) (hps : ∀ k, k < N → (encs k).size = ps.size)
    {I : Nat → World → Prop} (hI : OwnFrom w.heap.size I) (h0 : I 0 w) (a₁ : Nat → Act)
    (hassign : ∀ (l k : Nat) (W : World) (K : Act → World → Prop), k < N → K (a₁ k) W → assign.wpIn (Fence.wide.inRound l) 3 P (Exit.then K (fun _ _ _ => False)) { tmps := (ps.zip (encs k)).foldl (fun t (p, v) => t.setIfInBounds p v) a.tmps, defers := [] } W)
    (hbody : ∀ (l k : Nat) (W : World), k < N → I k W → bc.wpIn (Fence.wide.inRound l) 3 P (fun e _ W' => e = .normal ∧ KeepsFrom w.heap.size W W' ∧ KpB bs W W' ∧ I (k + 1) W') (a₁ k) W)
    (hdone : ∀ (W : World), I N W → W.heap[w.heap.size]? = some (.deferred (some [])) → Q .normal { a with defers := { target := .collected w.heap.size, args := #[] } :: a.defers } W) :
    (Code.rangeFunc g ps assign bc).wpIn Fence.wide 5 P Q a w := by
  refine wpIn_rangeFunc fun fn hfn => ?_
  -- the loop's record (block D + 1) and the block for what the rounds defer (block D)
  generalize hD : w.heap.size = D at *
  let R : LoopState → Option Code → Loop := fun s p => { state := s, pending := p, fn := fn, tmps := a.tmps, params := ps, assign := assign, body := bc, defers := D }
  let Wd : World := w.alloc (.deferred (some []))
  let Wl : World := Wd.alloc (.loop (R .ready none))
  have sd : Wd.heap.size = D + 1 := by show (w.alloc _).heap.size = _; rw [World.size_alloc, hD]
  have hd : Wl.heap[D]? = some (.deferred (some [])) := (Below.heap_alloc _ _ _ (by rw [sd]; omega)).trans (by have := World.alloc_heap_new w (.deferred (some [])); rwa [hD] at this)
  have hl : Wl.heap[D + 1]? = some (.loop (R .ready none)) := by have := World.alloc_heap_new Wd (.loop (R .ready none)); rwa [sd] at this
  have hb : Below D w Wl := ((Below.refl D w).alloc (by omega) _).alloc (by rw [show (w.alloc (.deferred (some []))).heap.size = D + 1 from sd]; omega) _
  have run0 : (Instr.enterLoop fn a.tmps ps assign bc Fence.wide.round).run P w = .ok (D + 1, [{ target := .collected D, args := #[] }]) Wl := by
    have := run_enterLoop_outer (P := P) (w := w) fn a.tmps ps assign bc
    rw [hD] at this
    exact this
  refine ⟨D + 1, _, Wl, { target := .fn (.func gf) lb, args := #[.func (.yield (D + 1)) #[] #[]] }, Wl, gf, #[.func (.yield (D + 1)) #[] #[]] ++ lb, Wl, run0, by simp only [resolve, hg]; simp [go_sem], fun _ _ => trivial, by simp [invoke, go_sem, eg], fun _ => by omega, ?_⟩
  have hput : ∀ {k : Nat} {W : World} (o o' : Obj), I k W → W.heap[D + 1]? = some o → o.isCells = false → I k (W.putObj (D + 1) o') := fun o o' h1 h2 h3 => hI.putObj o' h1 (by omega) h2 h3
  refine (hit (D + 1) (fun k W => I k W ∧ W.heap[D + 1]? = some (.loop (R .ready none)) ∧ W.heap[D]? = some (.deferred (some []))) Wl (by rw [hD]; exact hb) (fun k W hk hJ => ?_) ⟨hI.alloc _ (hI.alloc _ h0), hl, hd⟩).mono fun e W he => ?_
  · obtain ⟨i1, i2, i3⟩ := hJ
    have hlt := (Array.getElem?_eq_some_iff.1 i2).1
    let Wb : World := W.putObj (D + 1) (.loop (R .busy none))
    have b2 : Wb.heap[D + 1]? = some (.loop (R .busy none)) := World.putObj_heap_same hlt
    have b3 : Wb.heap[D]? = some (.deferred (some [])) := (World.putObj_heap_other (by omega)).trans i3
    have bk : KpB bs W Wb := fun B hB => World.putObj_heap_other (by have := hbs B hB; omega)
    refine ⟨fn, _, assign, bc, run_yield (P := P) i2 (hps k hk), roundIn_of_wpIn hfn (hassign _ k W _ hk ⟨Wb, run_beginRound i2 rfl, ?_⟩)⟩
    refine wpIn_mono (hbody _ k Wb hk (hput _ _ i1 i2 rfl)) fun e1 a1 W1 h1 => ?_
    obtain ⟨rfl, c1, c2, c3⟩ := h1
    have d2 := c1.same (D + 1) _ (by omega) b2 rfl
    have d3 := c1.same D _ (Nat.le_refl _) b3 rfl
    exact ⟨_, _, run_endRound (P := P) none d2, rfl, ⟨hput _ _ c3 d2 rfl, World.putObj_heap_same (Array.getElem?_eq_some_iff.1 d2).1, (World.putObj_heap_other (by omega)).trans d3⟩,
      fun B hB => (World.putObj_heap_other (by have := hbs B hB; omega)).trans ((c2 B hB).trans (bk B hB))⟩
  · obtain ⟨⟨v, rfl⟩, j1, j2, j3⟩ := he
    exact ⟨none, _, run_endLoop (P := P) j2 (by simp [R]), hdone _ (hput _ _ j1 j2 rfl) ((World.putObj_heap_other (by omega)).trans j3)⟩
theorem rf_ok {body : Body} (hB : ∀ l, RunOkIn P l 3 body) {tb : Tr Plan} {N : Nat} {bc assign : Code} (hall : allR P tb bc = true) (hnd : codeND bc = true) {base : Bas} {φ : Emb} {H : Heap} {w : World} {a : Act} (hH : HR base φ H w)
    {g : Operand} {ps : Array Tmp} {gf : Nat} {lb : Array Value} (hg : a.eval g = .func (.func gf) #[] lb) (eg : ∀ args w, (callFunc gf args).run P w = .ok (.enter gf args) w)
    {xs : List (List Value)} {bs ks : List Nat} {encs : Nat → Array Value} (hit : Gives P gf lb xs.length encs bs w)
    (hbs : ∀ B ∈ bs, ∃ i ∈ ks, ∃ c, φ[i]? = some (B, c)) (hps : ∀ k, k < xs.length → (encs k).size = ps.size)
    (a₁ : Nat → Act) (hassign : ∀ (l k : Nat) (W : World) (K : Act → World → Prop), k < xs.length → K (a₁ k) W → assign.wpIn (Fence.wide.inRound l) 3 P (Exit.then K (fun _ _ _ => False)) { tmps := (ps.zip (encs k)).foldl (fun t (p, v) => t.setIfInBounds p v) a.tmps, defers := [] } W)
    {tmA : List Value → Tr Value} (htm : ∀ (k : Nat) x φ', xs[k]? = some x → Ext φ φ' → TR N φ' (tmA x) (a₁ k))
    {H' : Heap} (hf : foldR (round body tb N bc tmA H.next ks) xs H = some H')
    {Q : Exit → Act → World → Prop} (hdone : ∀ (D : Nat) (W : World) (φ' : Emb), w.heap.size ≤ D → Ext φ φ' → HR base φ' H' W → FR φ φ' H H' w W → (∀ (i c : Nat), φ'[i]? ≠ some (D, c)) → W.heap[D]? = some (.deferred (some [])) → Q .normal { a with defers := { target := .collected D, args := #[] } :: a.defers } W) :
    (Code.rangeFunc g ps assign bc).wp P Q a w := by
  -- what is embedded, and a block that holds no cells
  have hne : ∀ {Hk : Heap} {φk : Emb} {W : World}, rowsFrom H.next Hk = true → Ext φ φk → HR base φk Hk W → ∀ (k : Nat) (o : Obj), w.heap.size ≤ k → W.heap[k]? = some o → o.isCells = false → ∀ (i c : Nat), φk[i]? ≠ some (k, c) := by
    intro Hk φk W hr hx hHk k o hk ho hoc i c hi
    rcases Nat.lt_or_ge i φ.length with hlt | hge
    · have h1 := hH.rng i k c ((hx.old hlt).symm.trans hi)
      omega
    · obtain ⟨v, e, sz, n, cs, hb⟩ := rowsFrom_ok hr i (by have := hH.len; omega) (by have := hHk.len; have := (List.getElem?_eq_some_iff.1 hi).1; omega)
      obtain ⟨cur, fr, h1, _⟩ := hHk.blk i _ k c hb hi
      rw [h1] at ho; injection ho with ho; subst ho; cases hoc
  have hI : OwnFrom w.heap.size (fun (k : Nat) (W : World) => ∃ Hk φk, foldR (round body tb N bc tmA H.next ks) (xs.take k) H = some Hk ∧ rowsFrom H.next Hk = true ∧ Ext φ φk ∧ HR base φk Hk W ∧ FR φ φk H Hk w W) := by
    rintro k W W' row ⟨Hk, φk, h1, h3, h4, h5, h6⟩ hg hr
    have hsame : ∀ (i B c : Nat), φk[i]? = some (B, c) → W'.heap[B]? = W.heap[B]? := fun i B c hi => hg.block B (h5.rng i B c hi).2 (fun e => by
      obtain ⟨k1, o, k2, k3⟩ := hr B e.symm
      exact hne h3 h4 h5 B o k1 k2 k3 i c hi)
    refine ⟨Hk, φk, h1, h3, h4, ⟨h5.len, h5.ver, h5.sep, fun i b B c hb hp => by rw [hsame i B c hp]; exact h5.blk i b B c hb hp, fun i B c hp => ⟨(h5.rng i B c hp).1, Nat.lt_of_lt_of_le (h5.rng i B c hp).2 hg.size⟩, Nat.le_trans h5.base hg.size, h5.gl, h5.inv.grown hg h5.base (fun j hj => by
      have := (hr j hj).1; have := hH.base; omega)⟩,
      ⟨hg.os.trans h6.os, hg.tape.trans h6.tape, hg.output.trans h6.output, Nat.le_trans h6.size hg.size, h6.clock, fun B hB hn => ?_, fun i B c hi => ?_, fun i B c b hi hb hl hv => ?_, h6.mono, h6.keep⟩⟩
    · rw [hg.block B (Nat.lt_of_lt_of_le hB h6.size) (fun e => by have := (hr B e.symm).1; omega)]
      exact h6.old B hB hn
    · exact h6.fresh i B c hi
    · rw [hsame i B c (h4.get hi)]
      exact h6.clean i B c b hi hb hl hv
  refine wpIn_wide.1 (range_ord hg eg hit (fun B hB => ?_) hps hI ⟨H, φ, rfl, rowsFrom_self H, Ext.refl φ, hH, FR.refl φ H w⟩ a₁ hassign ?_ ?_)
  · obtain ⟨i, _, c, hi⟩ := hbs B hB
    exact (hH.rng i B c hi).2
  · rintro l k W hk ⟨Hk, φk, h1, h3, h4, h5, h6⟩
    obtain ⟨x, H1, e1, e2, e3⟩ := foldR_at hf k hk Hk h1
    have k1' := e2
    unfold round at k1'
    split at k1' <;> try (cases k1'; done)
    rename_i tm' H1' hrun
    split at k1' <;> try (cases k1'; done)
    rename_i hand
    injection k1' with k1'; subst k1'
    rw [Bool.and_eq_true] at hand
    refine wpIn_mono ((hB l _ _ _ _ _ _ _ _ hall hnd hrun) base φk W (a₁ k) h5 (htm k x φk e1 h4)).1 ?_
    rintro e1 a1 W1 ⟨rfl, φ1, q1, q2, q3, q4⟩
    refine ⟨rfl, ⟨q3.size, fun k o hk ho hoc => ?_⟩, fun B hBs => ?_, H1', φ1, e3, hand.1, h4.trans q1, q2, h6.trans h4 q1 q3⟩
    · rw [q3.old k (Array.getElem?_eq_some_iff.1 ho).1 (hne h3 h4 h5 k o hk ho hoc)]; exact ho
    · obtain ⟨i, hi, c, hp⟩ := hbs B hBs
      obtain ⟨b, b1, b2, b3⟩ := stays_ok hand.2 i hi
      exact q3.clean i B c b (h4.get hp) b1 b2 b3
  · rintro W ⟨Hk, φk, h1, h3, h4, h5, h6⟩ hK
    rw [List.take_length, hf] at h1
    injection h1 with h1; subst h1
    exact hdone _ W φk (Nat.le_refl _) h4 h5 h6 (hne h3 h4 h5 _ _ (Nat.le_refl _) hK rfl) hK
end
end Go.Ev
