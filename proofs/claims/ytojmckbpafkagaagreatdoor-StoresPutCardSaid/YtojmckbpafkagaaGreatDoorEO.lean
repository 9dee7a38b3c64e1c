import Derived.Test.YtojmckbpafkagaaGreatDoorEK
import Derived.Test.YtojmckbpafkagaaGreatDoorEU
import Derived.RangeFuncLeaves
import Derived.RangeFuncKeeps
import Derived.Test.YtojmckbpafkagaaGreatDoorBackw
import Derived.Test.YtojmckbpafkagaaGreatDoorEM
/- stores.occurrences: a range over slices.Backward, run by the evaluator (a hook). -/
namespace Go.Ev
open Go Go.RowKit Go.Proofs
set_option linter.unusedVariables false
set_option linter.unusedSimpArgs false
set_option maxRecDepth 1000000
section
variable {P : Program}
/-- Pieces of code, one behind the other. -/
def seqTo (l : List Code) (c : Code) : Code := l.foldr Code.seq c
noncomputable def runL (body : Body) (tb : Tr Plan) (N : Nat) : List Code → Tr Value → Heap → Option (Tr Value × Heap)
  | [], tm, H => some (tm, H)
  | c :: l, tm, H => match body tb N c tm H with
    | .ok .normal tm1 H1 => runL body tb N l tm1 H1
    | _ => none
theorem runL_am {body : Body} (hB : RunOk P body) {tb : Tr Plan} {N : Nat} : ∀ {l : List Code} {tm tm' : Tr Value} {H H' : Heap}, (∀ c ∈ l, allR P tb c = true) → runL body tb N l tm H = some (tm', H') → WF H → WF H' ∧ AM H H'
  | [], tm, tm', H, H', _, h, hW => by injection h with h; injection h with h1 h2; subst h2; exact ⟨hW, AM.refl _⟩
  | c :: l, tm, tm', H, H', ha, h, hW => by
    unfold runL at h
    split at h <;> try (cases h; done)
    rename_i tm1 H1 h1
    obtain ⟨k1, k2⟩ := (hB _ _ _ _ _ _ _ _ (ha c (by simp)) h1).1 hW
    obtain ⟨k3, k4⟩ := runL_am hB (fun c hc => ha c (by simp [hc])) h k1
    exact ⟨k3, k2.trans k4⟩
theorem runL_ok {body : Body} (hB : RunOk P body) {tb : Tr Plan} {N : Nat} {base : Bas} {rest : Code} {Q : Exit → Act → World → Prop} : ∀ {l : List Code} {tm tm' : Tr Value} {H H' : Heap} {φ : Emb} {w : World} {a : Act}, (∀ c ∈ l, allR P tb c = true) → runL body tb N l tm H = some (tm', H') → HR base φ H w → TR N φ tm a →
    (∀ φ' a' w', Ext φ φ' → HR base φ' H' w' → FR φ φ' H H' w w' → TR N φ' tm' a' → rest.wp P Q a' w') → (seqTo l rest).wp P Q a w
  | [], tm, tm', H, H', φ, w, a, _, h, hH, hT, hK => by injection h with h; injection h with h1 h2; subst h1; subst h2; exact hK φ a w (Ext.refl φ) hH (FR.refl φ H w) hT
  | c :: l, tm, tm', H, H', φ, w, a, ha, h, hH, hT, hK => by
    unfold runL at h
    split at h <;> try (cases h; done)
    rename_i tm1 H1 h1
    refine wp_seq (wp_mono ((hB _ _ _ _ _ _ _ _ (ha c (by simp)) h1).2 base φ w a hH hT).1 fun e1 a1 w1 hq => ?_)
    obtain ⟨rfl, φ1, q1, q2, q3, q4⟩ := hq
    exact runL_ok hB (fun c hc => ha c (by simp [hc])) h q2 q4 fun φ2 a2 w2 r1 r2 r3 r4 => hK φ2 a2 w2 (q1.trans r1) r2 (q3.trans q1 r1 r3) r4
/-- Reading operations, while marks stand among the deferred calls. -/
noncomputable def seqRd (P : Program) (N : Nat) (H : Heap) : List Oper → Tr Value → Option (Tr Value)
  | [], tm => some tm
  | o :: L, tm => match o.guard with
    | none => (match ropX P H tm o.op with | some r => (match putT N tm o.dst r.1 with | some tm' => seqRd P N H L tm' | none => none) | none => none)
    | some _ => none
theorem seqRd_ok {N : Nat} {base : Bas} {φ : Emb} {H : Heap} {w : World} {ops : Array Oper} {Q : Exit → Act → World → Prop} {ds : List Deferred} (hH : HR base φ H w) : ∀ {L : List Oper} {tm tm' : Tr Value} {a : Act}, TR N φ tm a → seqRd P N H L tm = some tm' →
    (∀ a', TR N φ tm' a' → Q .normal { a' with defers := ds } w) → wpList P ops Q L { a with defers := ds } w
  | [], tm, tm', a, hT, h, hK => by injection h with h; subst h; exact hK a hT
  | o :: L, tm, tm', a, hT, h, hK => by
    unfold seqRd at h
    split at h <;> try (cases h; done)
    rename_i hg
    split at h <;> try (cases h; done)
    rename_i r hr
    split at h <;> try (cases h; done)
    rename_i tm1 hp
    obtain ⟨v', k1, k2⟩ := ropX_ok hH hT hr
    refine wpList_step fun K hKK => ?_
    have hw : Region.wanted o (yielded ops ({ a with defers := ds } : Act).tmps) = true := by simp only [Region.wanted, hg]
    rw [if_pos hw]
    have he : ((execOp ({ a with defers := ds } : Act).eval o).run P w) = .ok (.value v') w := k2 w (fun _ _ _ _ _ => rfl)
    unfold Oper.wp
    rw [he, Oper.upon_value]
    refine hKK _ _ ?_
    have hq : ({ a with defers := ds } : Act).put o.dst v' = { a.put o.dst v' with defers := ds } := by cases o.dst <;> rfl
    rw [hq]
    exact seqRd_ok hH (hT.put hp k1) h hK
theorem foldR_am {rd : List Value → Heap → Option Heap} (hr : ∀ x H H', rd x H = some H' → WF H → WF H' ∧ AM H H') : ∀ {l : List (List Value)} {H H' : Heap}, foldR rd l H = some H' → WF H → WF H' ∧ AM H H'
  | [], H, H', h, hW => by injection h with h; subst h; exact ⟨hW, AM.refl _⟩
  | x :: l, H, H', h, hW => by
    unfold foldR at h
    split at h <;> try (cases h; done)
    rename_i H1 h1
    obtain ⟨k1, k2⟩ := hr _ _ _ h1 hW
    obtain ⟨k3, k4⟩ := foldR_am hr h k1
    exact ⟨k3, k2.trans k4⟩
theorem round_am {body : Body} (hB : RunOk P body) {tb : Tr Plan} {N : Nat} {c : Code} (ha : allR P tb c = true) {tmA : List Value → Tr Value} {i0 : Nat} {ks : List Nat} (x : List Value) (H H' : Heap) (h : round body tb N c tmA i0 ks x H = some H') (hW : WF H) : WF H' ∧ AM H H' := by
  unfold round at h
  split at h <;> try (cases h; done)
  rename_i tm1 H1 h1
  split at h <;> try (cases h; done)
  injection h with h; subst h
  exact (hB _ _ _ _ _ _ _ _ ha h1).1 hW
/-- A block that nothing stands for is turned. -/
theorem HR.putDead {base : Bas} {φ0 φ : Emb} {H0 H : Heap} {w0 w : World} (hH : HR base φ H w) (hF : FR φ0 φ H0 H w0 w) (h0 : HR base φ0 H0 w0) {D : Nat} {o o' : Obj} (hD : w0.heap.size ≤ D) (hk : w.heap[D]? = some o) (hc : o.isCells = false) (hw : o.isWalk = false) (hn : ∀ (i c : Nat), φ[i]? ≠ some (D, c)) :
    HR base φ H (w.putObj D o') ∧ FR φ0 φ H0 H w0 (w.putObj D o') := by
  have hlt := (Array.getElem?_eq_some_iff.1 hk).1
  have hne : ∀ B, B ≠ D → (w.putObj D o').heap[B]? = w.heap[B]? := fun B h => World.putObj_heap_other h
  have hBl := belowK_b (n₀ := base.n) (w := w0) h0.base w D o o' hD hk hc hw
  have hsz : w.heap.size ≤ (w.putObj D o').heap.size := hBl.size
  refine ⟨⟨hH.len, hH.ver, hH.sep, fun i b B c hi hp => ?_, fun i B c hp => ⟨(hH.rng i B c hp).1, Nat.lt_of_lt_of_le (hH.rng i B c hp).2 hsz⟩, Nat.le_trans hH.base hsz, hH.gl, hH.inv.trans hBl⟩,
    ⟨hF.os, hF.tape, hF.output, Nat.le_trans hF.size hsz, hF.clock, fun B h1 h2 => ?_, hF.fresh, fun i B c b hp h1 h2 h3 => ?_, hF.mono, hF.keep⟩⟩
  · rw [hne B (fun e => hn i c (e ▸ hp))]; exact hH.blk i b B c hi hp
  · rw [hne B (by omega)]; exact hF.old B h1 h2
  · rw [hne B (fun e => ?_)]
    · exact hF.clean i B c b hp h1 h2 h3
    · have := (h0.rng i B c hp).2; omega
end
/-! ## the function's pieces -/
def sL : Code → Code | .seq x _ => x | _ => .skip
def sR : Code → Code | .seq _ y => y | _ => .skip
noncomputable def ocCode : Code := match fnOf Tryz.prog 22 with | some (_, c, _) => c | none => .skip
noncomputable def oc1 : Code := sL ocCode
noncomputable def oc2 : Code := sL (sR ocCode)
noncomputable def oc3 : Code := sL (sR (sR ocCode))
noncomputable def oc4 : Code := sL (sR (sR (sR ocCode)))
noncomputable def oc5 : Code := sL (sL (sR (sR (sR (sR ocCode)))))
noncomputable def ocAsg : Code := match sR (sL (sR (sR (sR (sR ocCode))))) with | .block _ (.rangeFunc _ _ x _) => x | _ => .skip
noncomputable def ocBody : Code := match sR (sL (sR (sR (sR (sR ocCode))))) with | .block _ (.rangeFunc _ _ _ b) => b | _ => .skip
noncomputable def ocEnd : Array Oper := match sL (sR (sR (sR (sR (sR ocCode))))) with | .region _ ops _ => ops | _ => #[]
noncomputable def ocL : List Code := [oc1, oc2, oc3, oc4]
theorem ocCode_eq : ocCode = seqTo ocL (.seq (seqTo [oc5] (.block 2 (.rangeFunc (.tmp 34) #[35, 36] ocAsg ocBody))) (.seq (.region 22 ocEnd false) .ret)) := by kernel_rfl
noncomputable def ocA : Oper := match ocAsg with | .region _ ⟨o :: _⟩ _ => o | _ => ⟨none, .assign (.tmp 0), 0, "", #[], none⟩
theorem ocAsg_eq : ocAsg = .region 8 #[ocA] false ∧ ocA.dst = some 9 ∧ ocA.op = .assign (.tmp 36) ∧ ocA.guard = none := ⟨by kernel_rfl, by kernel_rfl, by kernel_rfl, by kernel_rfl⟩
theorem ocFn : fnOf Tryz.prog 22 = some (85, ocCode, [.tmp 4]) := by kernel_rfl
theorem ocND : codeND ocBody = true := by kernel_rfl
theorem oc_enter (gf : Nat) (h : (fnOf Tryz.prog gf).isSome = true) (args : Array Value) (w : World) : (callFunc gf args).run Tryz.prog w = .ok (.enter gf args) w := by
  cases hf : fnOf Tryz.prog gf with
  | none => rw [hf] at h; cases h
  | some x =>
    obtain ⟨N, c, rs⟩ := x
    obtain ⟨fn, hfn, hb, _, _, hn⟩ := fnOf_spec hf
    have hn' : ¬ fn.name = "runtime.NumGoroutine" := by simpa using hn
    simp [callFunc, hfn, hn', hb]
/-! ## what the iterator hands -/
noncomputable def cellA (H : Heap) (i j : Nat) : Option Value := match H.blks.get i with
  | some (.row _ _ _ n cs) => (match Nat.blt j n with | true => cs.get j | false => none)
  | _ => none
theorem cellA_ok {base : Bas} {φ : Emb} {H : Heap} {w : World} (hH : HR base φ H w) {i j B c : Nat} (hi : φ[i]? = some (B, c)) {v : Value} (h : cellA H i j = some v) : ∃ v', w.cell? ⟨B, j, none⟩ = some v' ∧ VR φ v v' := by
  unfold cellA at h
  split at h <;> try (cases h; done)
  rename_i ver e sz n cs hb
  split at h <;> try (cases h; done)
  rename_i hj
  obtain ⟨cur, fr, h1, _, _, h4⟩ := hH.blk i _ B c hb hi
  obtain ⟨v', k1, k2⟩ := h4 j v (Nat.le_of_ble_eq_true hj) h
  exact ⟨v', by simp [World.cell?, h1, k1], k2⟩
noncomputable def xsA (H : Heap) (i : Nat) : Nat → Option (List (List Value))
  | 0 => some []
  | n + 1 => match cellA H i n with
    | some (.int .i64 z) => (match xsA H i n with | some l => some ([.int .i64 (n : Nat), .int .i64 z] :: l) | none => none)
    | _ => none
noncomputable def intA (H : Heap) (i j : Nat) : Int := match cellA H i j with | some (.int .i64 z) => z | _ => 0
theorem xsA_spec {H : Heap} {i : Nat} : ∀ {n : Nat} {xs : List (List Value)}, xsA H i n = some xs → xs.length = n ∧ (∀ (k : Nat) (hk : k < xs.length), xs[k] = [.int .i64 ((n : Int) - 1 - k), .int .i64 (intA H i (n - 1 - k))]) ∧ ∀ j, j < n → cellA H i j = some (.int .i64 (intA H i j))
  | 0, xs, h => by injection h with h; subst h; exact ⟨rfl, fun k hk => absurd hk (by simp), fun j hj => absurd hj (by omega)⟩
  | n + 1, xs, h => by
    unfold xsA at h
    split at h <;> try (cases h; done)
    rename_i z hz
    split at h <;> try (cases h; done)
    rename_i l hl
    injection h with h; subst h
    obtain ⟨h1, h2, h3⟩ := xsA_spec hl
    have hi : intA H i n = z := by simp [intA, hz]
    refine ⟨by simp [h1], fun k hk => ?_, fun j hj => ?_⟩
    · cases k with
      | zero => simp only [List.getElem_cons_zero, Nat.add_sub_cancel, Nat.sub_zero, hi]; congr 2; congr 1; omega
      | succ k =>
        simp only [List.getElem_cons_succ]
        rw [h2 k (by simpa using hk)]
        rw [show n + 1 - 1 - (k + 1) = n - 1 - k by omega, show ((n + 1 : Nat) : Int) - 1 - ((k + 1 : Nat) : Int) = (n : Int) - 1 - k by omega]
    · rcases Nat.lt_succ_iff_lt_or_eq.1 hj with h | rfl
      · exact h3 j h
      · rw [hz, hi]
noncomputable def tmO (tm : Tr Value) (x : List Value) : Tr Value := match x with
  | [v0, v1] => ((tm.set 35 v0).set 36 v1).set 9 v1
  | _ => .nil
/-! ## the hook -/
noncomputable def ocH (body : Body) (tb : Tr Plan) (args : List Value) (H : Heap) : Option (Value × Heap) :=
  match Nat.ble (lenV args) 85 with
  | true => match runL body tb 85 ocL (putL .nil args 0) H with
    | some (tm0, H0) => match runL body tb 85 [oc5] tm0 H0 with
      | some (tm1, H1) => match tm1.get 34 with
        | some (.func (.func 61) ⟨[]⟩ ⟨[.pointer (some ⟨ib, 0, none⟩)]⟩) => match cellA H1 ib 0 with
          | some (.slice (some ⟨ig, 0, none⟩) (N + 1) _) => match Nat.ble N 1000 with
            | true => match xsA H1 ig (N + 1) with
              | some xs => match foldR (round body tb 85 ocBody (tmO tm1) H1.next [ib, ig]) xs H1 with
                | some H2 => match seqRd Tryz.prog 85 H2 ocEnd.toList tm1 with
                  | some tm2 => match tm2.get 4 with
                    | some v => some (v, H2)
                    | none => none
                  | none => none
                | none => none
              | none => none
            | false => none
          | _ => none
        | _ => none
      | none => none
    | none => none
  | false => none
theorem ocH_ok {body : Body} (hB : RunOk Tryz.prog body) (hBI : ∀ l, RunOkIn Tryz.prog l 3 body) {tb : Tr Plan} (ha1 : ∀ c ∈ ocL, allR Tryz.prog tb c = true) (ha2 : ∀ c ∈ [oc5], allR Tryz.prog tb c = true) (ha3 : allR Tryz.prog tb ocBody = true) : HkF Tryz.prog 22 (ocH body tb) := by
  intro args H r hr
  unfold ocH at hr
  split at hr <;> try (cases hr; done)
  rename_i hlen
  split at hr <;> try (cases hr; done)
  rename_i tm0 H0 hr0
  split at hr <;> try (cases hr; done)
  rename_i tm1 H1 hr1
  split at hr <;> try (cases hr; done)
  rename_i ib h34
  split at hr <;> try (cases hr; done)
  rename_i ig N cap hsl
  split at hr <;> try (cases hr; done)
  rename_i hchk
  split at hr <;> try (cases hr; done)
  rename_i xs hxs
  split at hr <;> try (cases hr; done)
  rename_i H2 hfold
  split at hr <;> try (cases hr; done)
  rename_i tm2 hend
  split at hr <;> try (cases hr; done)
  rename_i v hv
  injection hr with hr; subst hr
  have hN' := Nat.le_of_ble_eq_true hchk
  have hlen' := Nat.le_of_ble_eq_true hlen
  rw [lenV_eq] at hlen'
  obtain ⟨x1, x2, x3⟩ := xsA_spec hxs
  refine ⟨fun hW => ?_, fun base φ w args' hH ha => ?_⟩
  · obtain ⟨k1, k2⟩ := runL_am hB ha1 hr0 hW
    obtain ⟨k3, k4⟩ := runL_am hB ha2 hr1 k1
    obtain ⟨k5, k6⟩ := foldR_am (fun x H H' h => round_am hB ha3 x H H' h) hfold k3
    exact ⟨k5, (k2.trans k4).trans k6⟩
  · obtain ⟨fn, hfn, hb, hnt, hres, hn⟩ := fnOf_spec ocFn
    refine .inr ⟨oc_enter _ (by rw [ocFn]; rfl) _ _, ?_⟩
    refine (callsIn_wide (n := 5)).1 (callsIn_of_wp_marks hfn hb trivial (wpIn_wide.2 ?_) rfl)
    rw [hnt, ocCode_eq]
    have hla := ha.1
    refine runL_ok hB ha1 hr0 hH ⟨?_, fun t u hu => ?_, rfl, hH.gl⟩ fun φ0 a0 w0 e0 g0 f0 t0 => ?_
    · simp; omega
    · rw [putL_get] at hu
      split at hu
      · rename_i hc
        obtain ⟨u', g1, g2⟩ := ha.get hu
        have ht : t < args'.length := by omega
        refine ⟨u', ?_, g2⟩
        simp only [Nat.sub_zero] at g1
        rw [Array.getElem?_append_left (by simpa using ht)]
        simpa using g1
      · simp at hu
    refine wp_seq (runL_ok hB ha2 hr1 g0 t0 fun φ1 a1 w1 e1 g1 f1 t1 => ?_)
    refine wp_block ?_
    -- what the iterator's value holds
    obtain ⟨v34, q1, q2⟩ := t1.get 34 _ h34
    cases q2
    rename_i fs' gs' l1 l2 m1 m2
    obtain rfl : fs' = [] := List.length_eq_zero_iff.1 l1.symm
    obtain ⟨u, rfl⟩ : ∃ u, gs' = [u] := by
      match gs', l2 with
      | [u], _ => exact ⟨u, rfl⟩
    have hu := m2 0 _ _ rfl rfl
    cases hu
    rename_i Bs cs hbs
    obtain ⟨sv, s1, s2⟩ := cellA_ok g1 hbs hsl
    have hsv : ∃ Bg cg cap', φ1[ig]? = some (Bg, cg) ∧ sv = .slice (some ⟨Bg, 0, none⟩) (N + 1) cap' := by
      cases s2 with
      | sl _ _ _ h => exact ⟨_, _, _, h, rfl⟩
      | slG _ h _ => exact ⟨_, _, _, h, rfl⟩
      | slO _ _ _ _ h => exact absurd h (by decide)
    obtain ⟨Bg, cg, cap', hbg, rfl⟩ := hsv
    have hrow : ∀ (j : Nat), j < N + 1 → w1.cell? ⟨Bg, j, none⟩ = some (.int .i64 (intA H1 ig j)) := fun j hj => by
      obtain ⟨v', k1, k2⟩ := cellA_ok g1 hbg (x3 j hj)
      cases k2
      exact k1
    have hit : Gives Tryz.prog 61 #[.pointer (some ⟨Bs, 0, none⟩)] xs.length (fun k => #[.int .i64 (((N + 1 : Nat) : Int) - 1 - k), .int .i64 (intA H1 ig (N + 1 - 1 - k))]) [Bs, Bg] w1 := by
      rw [x1]
      intro l J W hW hY hj
      exact Go.Proofs.YtojmckbpafkagaaGreatDoor.backward_ord Bs Bg (N + 1) cap' (intA H1 ig) (by omega) w1 s1 hrow l J W hW hY hj
    have hev : a1.eval (.tmp 34) = .func (.func 61) #[] #[.pointer (some ⟨Bs, 0, none⟩)] := by
      show a1.tmps.getD 34 undef = _
      rw [Array.getD_eq_getD_getElem?, q1]; rfl
    obtain ⟨hasg, hd9, hop, hgd⟩ := ocAsg_eq
    refine rf_ok hBI ha3 ocND g1 hev (oc_enter _ (by kernel_rfl)) hit (ks := [ib, ig]) (fun B hB => ?_) (fun k _ => rfl)
      (fun k => { tmps := (((a1.tmps.setIfInBounds 35 (.int .i64 (((N + 1 : Nat) : Int) - 1 - k))).setIfInBounds 36 (.int .i64 (intA H1 ig (N + 1 - 1 - k)))).setIfInBounds 9 (.int .i64 (intA H1 ig (N + 1 - 1 - k)))), defers := [] })
      (fun l k W K hk hK => ?_) (tmA := tmO tm1) (fun k x φ' hx e' => ?_) hfold ?_
    · simp only [List.mem_cons, List.mem_nil_iff, or_false] at hB
      rcases hB with rfl | rfl
      · exact ⟨ib, by simp, _, hbs⟩
      · exact ⟨ig, by simp, _, hbg⟩
    · generalize (Value.int .i64 (((N + 1 : Nat) : Int) - 1 - k)) = v0 at hK ⊢
      generalize (Value.int .i64 (intA H1 ig (N + 1 - 1 - k))) = v1 at hK ⊢
      rw [hasg]
      have hs1 := t1.size
      refine wpIn_region_list (wpListIn_plain hgd fun K' hK' => operIn_of (by simp [noDef, hop]) ?_)
      have hz : ((#[35, 36] : Array Tmp).zip (#[v0, v1] : Array Value)).foldl (fun t (p, v) => t.setIfInBounds p v) a1.tmps = (a1.tmps.setIfInBounds 35 v0).setIfInBounds 36 v1 := by rw [show ((#[35, 36] : Array Tmp).zip (#[v0, v1] : Array Value)) = #[(35, v0), (36, v1)] from by show (List.toArray [35, 36]).zip (List.toArray [v0, v1]) = _; simp]; simp
      rw [hz]
      have he : (execOp (({ tmps := (a1.tmps.setIfInBounds 35 v0).setIfInBounds 36 v1, defers := [] } : Act).eval) ocA).run Tryz.prog W = .ok (.value v1) W := by
        have hv1 : ({ tmps := (a1.tmps.setIfInBounds 35 v0).setIfInBounds 36 v1, defers := [] } : Act).eval (.tmp 36) = v1 := by
          show ((a1.tmps.setIfInBounds 35 v0).setIfInBounds 36 v1).getD 36 undef = v1
          rw [Array.getD_eq_getD_getElem?, Array.getElem?_setIfInBounds]
          simp [hs1]
        simp only [execOp, hop, hv1]
        rfl
      unfold Oper.wp
      rw [he, Oper.upon_value]
      refine hK' _ _ ?_
      rw [hd9]
      exact hK
    · have hk := (List.getElem?_eq_some_iff.1 hx).1
      have hxe : x = [.int .i64 (((N + 1 : Nat) : Int) - 1 - k), .int .i64 (intA H1 ig (N + 1 - 1 - k))] := (List.getElem?_eq_some_iff.1 hx).2.symm.trans (x2 k hk)
      subst hxe
      have q := ((((t1.ext e').put (d := some 35) (v := .int .i64 (((N + 1 : Nat) : Int) - 1 - k)) rfl (.int _ _)).put (d := some 36) (v := .int .i64 (intA H1 ig (N + 1 - 1 - k))) rfl (.int _ _))).put (d := some 9) (v := .int .i64 (intA H1 ig (N + 1 - 1 - k))) rfl (.int _ _)
      exact ⟨q.size, q.get, rfl, q.gl⟩
    · intro D W φ2 hD e2 g2 f2 hne hK
      show (Code.seq (.region 22 ocEnd false) .ret).wp _ _ _ W
      refine wp_seq (wp_region_list ?_)
      refine seqRd_ok g2 (t1.ext e2) hend fun a' t' => ?_
      refine wp_ret ?_
      rw [t1.defers]
      refine ⟨by simp, .inl ⟨D, _, rfl, run_takeDeferred hK, ?_⟩⟩
      obtain ⟨g3, f3⟩ := HR.putDead g2 f2 g1 hD hK rfl rfl hne (o' := .deferred none)
      obtain ⟨v', r1, r2⟩ := results_ok (fn := fn) (l := [v]) g3 t' (by
        rw [hres]
        show (match resV Tryz.prog tm2 H2 (.tmp 4) with | some v => some [v] | none => none) = _
        simp only [resV, hv])
      exact ⟨v', r2, φ2, v', rfl, e0.trans (e1.trans e2), g3, f0.trans e0 (e1.trans e2) (f1.trans e1 e2 f3), r1⟩
end Go.Ev
/- The hooks of law 11: those of all seats, and stores.occurrences. -/
namespace Go.Ev
open Go Go.RowKit Go.Proofs
set_option maxRecDepth 1000000
noncomputable def ocS : List Value → Heap → Option (Value × Heap) := ocH (run Tryz.prog (tabL tabs) hkOf 10000) (tabOf (tabL tabs) 22)
theorem oc_all1 : (ocL.all fun c => allR Tryz.prog (tabOf (tabL tabs) 22) c) = true := by kernel_rfl
theorem oc_all2 : ([oc5].all fun c => allR Tryz.prog (tabOf (tabL tabs) 22) c) = true := by kernel_rfl
theorem oc_all3 : allR Tryz.prog (tabOf (tabL tabs) 22) ocBody = true := by kernel_rfl
theorem ocS_ok : HkF Tryz.prog 22 ocS := ocH_ok (run_ok mixed tabs_ok hkOf_ok 10000) (fun _ => runIn_ok mixed tabs_ok hkOf_ok 10000) (List.all_eq_true.1 oc_all1) (List.all_eq_true.1 oc_all2) oc_all3
noncomputable def hksS : HookT := (22, ocS) :: hksM
theorem hksS_ok : ∀ x ∈ hksS, HkF Tryz.prog x.1 x.2 := fun x hx => by
  rcases List.mem_cons.1 hx with rfl | h
  · exact ocS_ok
  · exact hksM_ok x h
noncomputable def hkS : Hook := hookL hksS
theorem hkS_ok : HookOk Tryz.prog hkS := hookL_ok hksS_ok
end Go.Ev
/- A closed call without addresses that has been run: a hook for later runs. -/
namespace Go.Ev
open Go Go.RowKit Go.Proofs
set_option maxRecDepth 1000000
noncomputable def givesV (r : Rc) (v : Value) : Bool := Rc.rec (motive := fun _ => Bool) (fun v' _ => sameV 6 v' v) (fun _ => false) r
theorem givesV_ok {r : Rc} {v : Value} (h : givesV r v = true) : ∃ H, r = .ok v H := by
  cases r with
  | err e => cases h
  | ok v' H => exact ⟨H, by rw [sameV_ok 6 _ _ h]⟩
noncomputable def oneG (args : List Value) (v : Value) (l : List Value) : Option Value := Bool.rec (motive := fun _ => Option Value) none (some v) (sameL (sameV 6) args l)
theorem one_pure {f : FuncId} {args : List Value} {v : Value} (ha : (fnOf Tryz.prog f).isSome = true) (hp : plainL args = true) (hv : plain v = true) (h : givesV (runFn Tryz.prog (tabL tabs) hkS 100000 f args (startH gs)) v = true) : PureF Tryz.prog f (oneG args v) := by
  refine ⟨fun l w => oc_enter f ha l w, fun l u w hu hJ => ?_⟩
  unfold oneG at hu
  cases hs : sameL (sameV 6) args l with
  | false => rw [hs] at hu; cases hu
  | true =>
    rw [hs] at hu
    injection hu with hu; subst hu
    obtain rfl := sameL_ok (sameV_ok 6) _ _ hs
    obtain ⟨H, hr⟩ := givesV_ok h
    refine Calls.mono (calls_run mixed tabs_ok hkS_ok (Nat.le_refl _) hr hp w (laid_of hJ) hJ (fun e => by rw [e] at ha; cases ha)) fun e w' he => ?_
    obtain ⟨φ, v', rfl, _, k, hb⟩ := he
    exact ⟨by rw [plain_eqV hv k], hb⟩
/-- One hook, and where it says nothing, another. -/
noncomputable def orH (g h : List Value → Heap → Option (Value × Heap)) (args : List Value) (H : Heap) : Option (Value × Heap) := Option.rec (motive := fun _ => Option (Value × Heap)) (h args H) (fun r => some r) (g args H)
theorem orH_ok {f : FuncId} {g h : List Value → Heap → Option (Value × Heap)} (h1 : HkF Tryz.prog f g) (h2 : HkF Tryz.prog f h) : HkF Tryz.prog f (orH g h) := by
  intro args H r hr
  unfold orH at hr
  cases hg : g args H with
  | none => rw [hg] at hr; exact h2 args H r hr
  | some x => rw [hg] at hr; injection hr with hr; subst hr; exact h1 args H x hg
end Go.Ev
