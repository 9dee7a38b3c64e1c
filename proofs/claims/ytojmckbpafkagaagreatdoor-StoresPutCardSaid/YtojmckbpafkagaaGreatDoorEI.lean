import Derived.Test.YtojmckbpafkagaaGreatDoorEH
namespace Go.Ev
open Go Go.RowKit
set_option linter.unusedVariables false
set_option linter.unusedSimpArgs false
section
variable {P : Program} {ops : Array Oper} {Q : Exit → Act → World → Prop} {md : Region.Mode}
theorem ready_setAll {listed : Array Bool} {i : Nat} (h : i ∈ Region.ready md ops listed) : ∀ (l : List Nat), i ∉ l → i ∈ Region.ready md ops (setAll listed l)
  | [], _ => h
  | j :: l, hn => by
    simp only [List.mem_cons, not_or] at hn
    exact ready_mono (ready_setAll h l hn.2) hn.1
theorem chkR_head {Bar : List Nat} {k j : Nat} {t : PL} {listed : Array Bool} (h : chkR md ops Bar ((k, j) :: t) listed = true) : j ∉ Bar ∧ j ∈ Region.ready md ops listed ∧ chkR md ops Bar t (listed.setIfInBounds j true) = true := by
  have key : (!Bar.contains j) = true ∧ (Region.ready md ops listed).contains j = true ∧ chkR md ops Bar t (listed.setIfInBounds j true) = true := by
    match k, h with
    | 0, h => simp only [chkR, Bool.and_eq_true] at h; exact ⟨h.1.1.1, h.1.1.2, h.2⟩
    | 1, h => simp only [chkR, Bool.and_eq_true] at h; exact ⟨h.1.1.1, h.1.1.2, h.2⟩
    | 2, h => simp only [chkR, Bool.and_eq_true] at h; exact ⟨h.1.1.1, h.1.1.2, h.2⟩
    | 3, h => simp only [chkR, Bool.and_eq_true] at h; exact ⟨h.1.1.1, h.1.1.2, h.2⟩
    | 4, h => simp only [chkR, Bool.and_eq_true] at h; exact ⟨h.1.1.1, h.1.1.2, h.2⟩
    | k + 5, h => simp only [chkR, Bool.and_eq_true] at h; exact ⟨h.1.1.1, h.1.1.2, h.2⟩
  exact ⟨by simpa using key.1, by simpa using key.2.1, key.2.2⟩
theorem chk_un {Bar : List Nat} : ∀ {p : PL} {listed : Array Bool}, chkR md ops Bar p listed = true → ∀ i, i ∈ p.map (·.2) → listed.getD i true = false ∧ i ∉ Bar
  | [], listed, h, i, hi => by simp at hi
  | (k, j) :: t, listed, h, i, hi => by
    obtain ⟨k2, hj, k3⟩ := chkR_head h
    simp only [List.map_cons, List.mem_cons] at hi
    rcases hi with rfl | hi
    · exact ⟨(mem_ready.1 hj).1, k2⟩
    · obtain ⟨e1, e2⟩ := chk_un k3 i hi
      by_cases hij : j = i
      · subst hij; exact ⟨(mem_ready.1 hj).1, k2⟩
      · rw [getD_set_ne true hij] at e1; exact ⟨e1, e2⟩
theorem als_mem : ∀ {p : PL} {i : Nat}, i ∈ als p → i ∈ p.map (·.2)
  | [], i, h => by simp [als] at h
  | (0, j) :: t, i, h => by simp only [als] at h; simp only [List.map_cons, List.mem_cons]; exact .inr (als_mem h)
  | (1, j) :: t, i, h => by simp only [als] at h; simp only [List.map_cons, List.mem_cons]; exact .inr (als_mem h)
  | (2, j) :: t, i, h => by
    simp only [als, List.mem_cons] at h
    simp only [List.map_cons, List.mem_cons]
    rcases h with rfl | h
    · exact .inl rfl
    · exact .inr (als_mem h)
  | (k + 3, j) :: t, i, h => by simp only [als] at h; simp only [List.map_cons, List.mem_cons]; exact .inr (als_mem h)
theorem putE_put {x : Option Tmp} {v : Value} : ∀ (E : Pend), (∀ e ∈ idx E, ∀ d, x = some d → (ops[e]?).bind (·.dst) ≠ some d) → ∀ a : Act, (putE ops E a).put x v = putE ops E (a.put x v)
  | [], _, a => rfl
  | (e, B) :: E, h, a => by
    show ((putE ops E a).put ((ops[e]?).bind (·.dst)) _).put x v = (putE ops E (a.put x v)).put ((ops[e]?).bind (·.dst)) _
    rw [← putE_put E (fun e' he' => h e' (by simp only [idx, List.map_cons, List.mem_cons]; exact .inr he')) a]
    refine (Act.put_comm _ _ _ fun d hd => ?_)
    intro hx
    exact h e (by simp [idx]) d hx hd
theorem take_out {i B : Nat} : ∀ (E : Pend), (i, B) ∈ E → (idx E).Nodup → (∀ e ∈ idx E, e ≠ i → ∀ d, (ops[i]?).bind (·.dst) = some d → (ops[e]?).bind (·.dst) ≠ some d) →
    ∃ E' : Pend, (∀ x, x ∈ E ↔ x = (i, B) ∨ x ∈ E') ∧ i ∉ idx E' ∧ (idx E').Nodup ∧ E.length = E'.length + 1 ∧ (∀ a, putE ops E a = putE ops E' (a.put ((ops[i]?).bind (·.dst)) (.pointer (some ⟨B, 0, none⟩)))) ∧ ∀ listed, setAll listed (idx E) = (setAll listed (idx E')).setIfInBounds i true
  | [], h, _, _ => by cases h
  | (e, B1) :: E, h, hn, hd => by
    simp only [idx, List.map_cons, List.nodup_cons] at hn
    by_cases he : (e, B1) = (i, B)
    · injection he with he1 he2; subst he1; subst he2
      refine ⟨E, fun x => by simp, hn.1, hn.2, rfl, fun a => ?_, fun listed => rfl⟩
      show (putE ops E a).put _ _ = _
      exact putE_put E (fun e' he' d hx => hd e' (by simp only [idx, List.map_cons, List.mem_cons]; exact .inr he') (fun e0 => hn.1 (by rw [← e0]; exact he')) d hx) a
    · have hmem : (i, B) ∈ E := by
        rcases List.mem_cons.1 h with h | h
        · exact absurd h.symm he
        · exact h
      obtain ⟨E', k1, k2, k3, k4, k5, k6⟩ := take_out E hmem hn.2 (fun e' he' => hd e' (by simp only [idx, List.map_cons, List.mem_cons]; exact .inr he'))
      have hei : e ≠ i := fun e0 => hn.1 (by rw [e0]; exact List.mem_map.2 ⟨(i, B), hmem, rfl⟩)
      refine ⟨(e, B1) :: E', fun x => ?_, ?_, ?_, by simp [k4], fun a => ?_, fun listed => ?_⟩
      · simp only [List.mem_cons, k1]
        constructor
        · rintro (h | h | h)
          · exact .inr (.inl h)
          · exact .inl h
          · exact .inr (.inr h)
        · rintro (h | h | h)
          · exact .inr (.inl h)
          · exact .inl h
          · exact .inr (.inr h)
      · simp only [idx, List.map_cons, List.mem_cons, not_or]
        exact ⟨Ne.symm hei, k2⟩
      · simp only [idx, List.map_cons, List.nodup_cons]
        refine ⟨fun h0 => hn.1 ?_, k3⟩
        obtain ⟨x, hx, hx2⟩ := List.mem_map.1 h0
        exact List.mem_map.2 ⟨x, (k1 x).2 (.inr hx), hx2⟩
      · show (putE ops E a).put _ _ = (putE ops E' _).put _ _
        rw [k5 a]
      · show (setAll listed (idx E)).setIfInBounds e true = ((setAll listed (idx E')).setIfInBounds e true).setIfInBounds i true
        rw [k6 listed, set_comm']
/-- What is ready, whatever new variables have been made. -/
theorem ready_only {listed : Array Bool} {i : Nat} {A : List Nat} (hA : Region.ready md ops (setAll listed A) = [i]) (hs : listed.size = ops.size) {l : List Nat} (hl : ∀ e ∈ l, e ∈ A) {j : Nat} (hj : j ∈ Region.ready md ops (setAll listed l)) : j = i ∨ j ∈ A := by
  by_cases hjA : j ∈ A
  · exact .inr hjA
  · left
    obtain ⟨h1, oj, hoj, h2⟩ := mem_ready.1 hj
    have hjl : j ∉ l := fun h => hjA (hl j h)
    rw [setAll_get listed true l j hjl] at h1
    have : j ∈ Region.ready md ops (setAll listed A) := by
      refine mem_ready.2 ⟨by rw [setAll_get listed true A j hjA]; exact h1, oj, hoj, fun e he hb => ?_⟩
      have h3 := h2 e he hb
      by_cases hel : e.on ∈ l
      · refine setAll_in listed A e.on (hl _ hel) ?_
        rcases Nat.lt_or_ge e.on listed.size with h' | h'
        · exact h'
        · have : (setAll listed l).getD e.on false = false := by
            have hsz := setAll_size listed l
            simp [Array.getElem?_eq_none (show (setAll listed l).size ≤ e.on by omega)]
          rw [this] at h3; cases h3
      · rw [setAll_get listed false l e.on hel] at h3
        exact setAll_mono listed A e.on h3
    rw [hA] at this
    simpa using this
end
/-- A block that is not looked at is made. -/
theorem HR.garbage {base : Bas} {φ : Emb} {H : Heap} {w : World} (h : HR base φ H w) (o : Obj) : HR base φ H (w.alloc o) :=
  ⟨h.len, h.ver, h.sep, fun i b B c hi hp => by rw [Go.RowKit.Below.heap_alloc w o B (h.rng i B c hp).2]; exact h.blk i b B c hi hp, fun i B c hp => by have := h.rng i B c hp; exact ⟨this.1, by simp; omega⟩, by simp; have := h.base; omega, h.gl, h.inv.alloc h.base o⟩
theorem FR.garbage {φ φ' : Emb} {H H' : Heap} {w w' : World} {base : Bas} (hH : HR base φ H w) (h : FR φ φ' H H' w w') (o : Obj) : FR φ φ' H H' w (w'.alloc o) :=
  ⟨h.os, h.tape, h.output, by have := h.size; simp; omega, h.clock, fun B hB hn => by rw [Go.RowKit.Below.heap_alloc w' o B (Nat.lt_of_lt_of_le hB h.size)]; exact h.old B hB hn, h.fresh, fun i B c b hp hb hl hv => by rw [Go.RowKit.Below.heap_alloc w' o B (Nat.lt_of_lt_of_le (hH.rng i B c hp).2 h.size)]; exact h.clean i B c b hp hb hl hv, h.mono, h.keep⟩
/-- A block that was made before is taken up. -/
theorem HR.adopt {base : Bas} {φ : Emb} {H : Heap} {w : World} (h : HR base φ H w) (b : ABlk) (B c : Nat) (hB : base.n ≤ B ∧ B < w.heap.size) (hfree : ∀ (j d : Nat), φ[j]? ≠ some (B, d)) (hv : b.ver ≤ H.clock) (hb : BR φ c b w.heap[B]?) :
    Ext φ (φ ++ [(B, c)]) ∧ HR base (φ ++ [(B, c)]) (H.push b) w ∧ (φ ++ [(B, c)])[H.next]? = some (B, c) ∧
    ∀ (φ0 : Emb) (H0 : Heap) (w0 : World), Ext φ0 φ → HR base φ0 H0 w0 → FR φ0 φ H0 H w0 w → w0.heap.size ≤ B → FR φ0 (φ ++ [(B, c)]) H0 (H.push b) w0 w := by
  have hx : Ext φ (φ ++ [(B, c)]) := Ext.push φ _
  have hnew : (φ ++ [(B, c)])[H.next]? = some (B, c) := by rw [← h.len]; simp
  have hold : ∀ (i : Nat) (x : Nat × Nat), i ≠ H.next → (φ ++ [(B, c)])[i]? = some x → φ[i]? = some x := by
    intro i x hi hx
    by_cases hlt : i < φ.length
    · rwa [List.getElem?_append_left hlt] at hx
    · have := (List.getElem?_eq_some_iff.1 hx).1
      have hl := h.len
      simp at this
      omega
  have hg : ∀ i b', (H.push b).blks.get i = some b' → (i = H.next ∧ b' = b) ∨ (i ≠ H.next ∧ H.blks.get i = some b') := by
    intro i b' hi
    simp only [Heap.push, Tr.get_set] at hi
    split at hi
    · rename_i he; injection hi with hi; exact .inl ⟨he, hi.symm⟩
    · rename_i he; exact .inr ⟨he, hi⟩
  have hgn : ∀ i, i ≠ H.next → (H.push b).blks.get i = H.blks.get i := fun i hi => by simp only [Heap.push, Tr.get_set, if_neg hi]
  refine ⟨hx, ⟨by simp [Heap.push, h.len], fun i b' hi => ?_, fun i j bi bj B1 c1 d1 hi hj li lj fi fj => ?_, fun i b' B1 c1 hi fi => ?_, fun i B1 c1 fi => ?_, h.base, fun g hg => let ⟨c, hc⟩ := h.gl g hg; ⟨c, hx.get hc⟩, h.inv⟩, hnew, fun φ0 H0 w0 hx0 hH0 hF hw0 => ⟨hF.os, hF.tape, hF.output, hF.size, hF.clock, hF.old, fun i B1 c1 fi => ?_, fun i B1 c1 b' fi hb' hl hv' => ?_, fun i b' hi hb' hl => ?_, fun i hi => ?_⟩⟩
  · rcases hg i b' hi with ⟨rfl, rfl⟩ | ⟨_, hi⟩
    · exact ⟨hv, Nat.lt_succ_self _⟩
    · exact ⟨(h.ver i b' hi).1, Nat.lt_succ_of_lt (h.ver i b' hi).2⟩
  · rcases hg i bi hi with ⟨e1, e2⟩ | ⟨ni, hi1⟩ <;> rcases hg j bj hj with ⟨e3, e4⟩ | ⟨nj, hj1⟩
    · rw [e1, e3]
    · rw [e1, hnew] at fi; injection fi with fi; injection fi with fB fc; subst fB
      exact absurd (hold j _ nj fj) (hfree j d1)
    · rw [e3, hnew] at fj; injection fj with fj; injection fj with fB fc; subst fB
      exact absurd (hold i _ ni fi) (hfree i c1)
    · exact h.sep i j bi bj B1 c1 d1 hi1 hj1 li lj (hold i _ ni fi) (hold j _ nj fj)
  · rcases hg i b' hi with ⟨rfl, rfl⟩ | ⟨ni, hi⟩
    · rw [hnew] at fi; injection fi with fi; injection fi with fB fc
      subst fB; subst fc; exact hb.ext hx
    · exact (h.blk i b' B1 c1 hi (hold i _ ni fi)).ext hx
  · by_cases ni : i = H.next
    · subst ni; rw [hnew] at fi; injection fi with fi; injection fi with fB fc
      subst fB; exact ⟨fun _ => hB.1, hB.2⟩
    · rw [hgn i ni]; exact h.rng i B1 c1 (hold i _ ni fi)
  · by_cases ni : i = H.next
    · subst ni; rw [hnew] at fi; injection fi with fi; injection fi with fB fc
      subst fB; exact .inr (.inl hw0)
    · exact hF.fresh i B1 c1 (hold i _ ni fi)
  · have hlt0 : i < φ0.length := (List.getElem?_eq_some_iff.1 fi).1
    rcases hg i b' hb' with ⟨rfl, rfl⟩ | ⟨ni, hb'⟩
    · have := hx0.len; rw [h.len] at this; omega
    · exact hF.clean i B1 c1 b' fi hb' hl hv'
  · rcases hg i b' hb' with ⟨rfl, rfl⟩ | ⟨ni, hb'⟩
    · have := hx0.len; rw [h.len] at this; omega
    · exact hF.mono i b' hi hb' hl
  · have hk := hF.keep i hi
    have hne : i ≠ H.next := fun e => by
      obtain ⟨n, cs, hg⟩ := isRo_inv hk
      have := (h.ver i _ hg).2; omega
    rw [hgn i hne]; exact hk
end Go.Ev
namespace Go.Ev
open Go Go.RowKit
set_option linter.unusedVariables false
set_option linter.unusedSimpArgs false
abbrev PK := Tr Value → Heap → List (Nat × Nat) → List Cl → Rp
noncomputable def planW (ih : PK) (rs : List (Nat × Nat)) (cs : List Cl) (tm : Tr Value) (H : Heap) : Rp := Bool.rec (motive := fun _ => Rp) (.err (.dirty [])) (ih tm H rs cs) (keptL H cs)
noncomputable def planX (P : Program) (call : Caller) (N : Nat) (ops : Array Oper) (o : Oper) (ih : PK) (tm : Tr Value) (H : Heap) (rs : List (Nat × Nat)) (cs : List Cl) : Rp := Ro.rec (motive := fun _ => Rp) (planW ih rs cs) .err (stepOF P call N ops tm H o)
noncomputable def planC (P : Program) (N : Nat) (ops : Array Oper) (o : Oper) (ih : PK) (tm : Tr Value) (H : Heap) (rs : List (Nat × Nat)) (cs : List Cl) : Rp := Option.rec (motive := fun _ => Rp) (.err (.dirty [o])) (fun x => ih x.1 H rs (x.2 :: cs)) (rdC P N ops tm H o)
noncomputable def planP (P : Program) (N : Nat) (ops : Array Oper) (o : Oper) (ih : PK) (tm : Tr Value) (H : Heap) (rs : List (Nat × Nat)) (cs : List Cl) : Rp := Option.rec (motive := fun _ => Rp) (.err (.dirty [o])) (fun tm' => ih tm' H rs cs) (rdP P N ops tm H o)
noncomputable def planS (P : Program) (call : Caller) (N : Nat) (ops : Array Oper) (k : Nat) (o : Oper) (ih : PK) (tm : Tr Value) (H : Heap) (rs : List (Nat × Nat)) (cs : List Cl) : Rp :=
  Nat.rec (motive := fun _ => Rp) (Rp.rec (motive := fun _ => Rp) (fun tm' H' rs' => ih tm' H' rs' cs) .err (rdOF P N ops tm H rs o))
    (fun k1 _ => Bool.rec (motive := fun _ => Rp) (Bool.rec (motive := fun _ => Rp) (planX P call N ops o ih tm H rs cs) (planP P N ops o ih tm H rs cs) (Nat.beq k1 3)) (planC P N ops o ih tm H rs cs) (Nat.beq k1 2)) k
noncomputable def planL (P : Program) (call : Caller) (N : Nat) (ops : Array Oper) (p : PL) : PK :=
  List.rec (motive := fun _ => PK) (fun tm H rs _ => .ok tm H rs)
    (fun x _ ih tm H rs cs => Option.rec (motive := fun _ => Rp) (.err .fuel) (fun o => planS P call N ops x.1 o ih tm H rs cs) (opAt ops x.2)) p
section
variable {P : Program} {call : Caller} {N : Nat} {ops : Array Oper} {md : Region.Mode}
theorem planL_zero {i : Nat} {t : PL} {tm : Tr Value} {H : Heap} {rs : List (Nat × Nat)} {cs : List Cl} : planL P call N ops ((0, i) :: t) tm H rs cs = match ops[i]? with | some o => (match rdO P N ops tm H rs o with | .ok tm' H' rs' => planL P call N ops t tm' H' rs' cs | .err e => .err e) | none => .err .fuel := by
  show Option.rec (motive := fun _ => Rp) (.err .fuel) (fun o => planS P call N ops 0 o (planL P call N ops t) tm H rs cs) (opAt ops i) = _
  rw [opAt_eq]
  cases ops[i]? with
  | none => rfl
  | some o =>
    show Rp.rec (motive := fun _ => Rp) (fun tm' H' rs' => planL P call N ops t tm' H' rs' cs) .err (rdOF P N ops tm H rs o) = _
    rw [rdOF_eq]
    simp only
    cases rdO P N ops tm H rs o <;> rfl
theorem planL_cell {i : Nat} {t : PL} {tm : Tr Value} {H : Heap} {rs : List (Nat × Nat)} {cs : List Cl} : planL P call N ops ((3, i) :: t) tm H rs cs = match ops[i]? with | some o => (match rdC P N ops tm H o with | some x => planL P call N ops t x.1 H rs (x.2 :: cs) | none => .err (.dirty [o])) | none => .err .fuel := by
  show Option.rec (motive := fun _ => Rp) (.err .fuel) (fun o => planS P call N ops 3 o (planL P call N ops t) tm H rs cs) (opAt ops i) = _
  rw [opAt_eq]
  cases ops[i]? with
  | none => rfl
  | some o =>
    show planC P N ops o (planL P call N ops t) tm H rs cs = _
    unfold planC
    simp only
    cases rdC P N ops tm H o <;> rfl
theorem planL_pure {i : Nat} {t : PL} {tm : Tr Value} {H : Heap} {rs : List (Nat × Nat)} {cs : List Cl} : planL P call N ops ((4, i) :: t) tm H rs cs = match ops[i]? with | some o => (match rdP P N ops tm H o with | some tm' => planL P call N ops t tm' H rs cs | none => .err (.dirty [o])) | none => .err .fuel := by
  show Option.rec (motive := fun _ => Rp) (.err .fuel) (fun o => planS P call N ops 4 o (planL P call N ops t) tm H rs cs) (opAt ops i) = _
  rw [opAt_eq]
  cases ops[i]? with
  | none => rfl
  | some o =>
    show planP P N ops o (planL P call N ops t) tm H rs cs = _
    unfold planP
    simp only
    cases rdP P N ops tm H o <;> rfl
theorem planL_succ {k i : Nat} (hk3 : k + 1 ≠ 3) (hk4 : k + 1 ≠ 4) {t : PL} {tm : Tr Value} {H : Heap} {rs : List (Nat × Nat)} {cs : List Cl} : planL P call N ops ((k + 1, i) :: t) tm H rs cs = match ops[i]? with | some o => (match stepO P call N ops tm H o with | .ok tm' H' => (match keptL H' cs with | true => planL P call N ops t tm' H' rs cs | false => .err (.dirty [])) | .err e => .err e) | none => .err .fuel := by
  show Option.rec (motive := fun _ => Rp) (.err .fuel) (fun o => planS P call N ops (k + 1) o (planL P call N ops t) tm H rs cs) (opAt ops i) = _
  rw [opAt_eq]
  cases ops[i]? with
  | none => rfl
  | some o =>
    have hb : Nat.beq k 2 = false := by
      cases h : Nat.beq k 2
      · rfl
      · exact absurd (by rw [Nat.eq_of_beq_eq_true h]) hk3
    have hb4 : Nat.beq k 3 = false := by
      cases h : Nat.beq k 3
      · rfl
      · exact absurd (by rw [Nat.eq_of_beq_eq_true h]) hk4
    show Bool.rec (motive := fun _ => Rp) (Bool.rec (motive := fun _ => Rp) (planX P call N ops o (planL P call N ops t) tm H rs cs) (planP P N ops o (planL P call N ops t) tm H rs cs) (Nat.beq k 3)) (planC P N ops o (planL P call N ops t) tm H rs cs) (Nat.beq k 2) = _
    rw [hb, hb4]
    show Ro.rec (motive := fun _ => Rp) (planW (planL P call N ops t) rs cs) .err (stepOF P call N ops tm H o) = _
    rw [stepOF_eq]
    simp only
    cases stepO P call N ops tm H o with
    | err e => rfl
    | ok tm' H' =>
      show planW (planL P call N ops t) rs cs tm' H' = _
      unfold planW
      simp only
      cases keptL H' cs <;> rfl
theorem planL_am (hC : CallerOk P call) : ∀ (p : PL) (tm : Tr Value) (H : Heap) (rs : List (Nat × Nat)) (cs : List Cl) (tm' : Tr Value) (H' : Heap) (rs' : List (Nat × Nat)), WF H → planL P call N ops p tm H rs cs = .ok tm' H' rs' → WF H' ∧ AM H H' ∧ ∀ x ∈ rs, x ∈ rs'
  | [], tm, H, rs, cs, tm', H', rs', hW, h => by injection h with h1 h2 h3; subst h2; subst h3; exact ⟨hW, AM.refl _, fun x hx => hx⟩
  | (0, i) :: p, tm, H, rs, cs, tm', H', rs', hW, h => by
    rw [planL_zero] at h
    split at h <;> try (cases h; done)
    split at h <;> try (cases h; done)
    rename_i tm1 H1 rs1 h1
    obtain ⟨rfl, k1⟩ := rdO_same h1
    obtain ⟨k2, k3, k4⟩ := planL_am hC p tm1 _ rs1 cs tm' H' rs' hW h
    exact ⟨k2, k3, fun x hx => k4 x (k1 x hx)⟩
  | (k + 1, i) :: p, tm, H, rs, cs, tm', H', rs', hW, h => by
    by_cases hk3 : k + 1 = 3
    · rw [hk3, planL_cell] at h
      split at h <;> try (cases h; done)
      split at h <;> try (cases h; done)
      exact planL_am hC p _ _ rs _ tm' H' rs' hW h
    by_cases hk4 : k + 1 = 4
    · rw [hk4, planL_pure] at h
      split at h <;> try (cases h; done)
      split at h <;> try (cases h; done)
      exact planL_am hC p _ _ rs _ tm' H' rs' hW h
    · rw [planL_succ hk3 hk4] at h
      split at h <;> try (cases h; done)
      split at h <;> try (cases h; done)
      rename_i tm1 H1 h1
      split at h <;> try (cases h; done)
      obtain ⟨k1, k2⟩ := stepO_am hC hW h1
      obtain ⟨k3, k4, k5⟩ := planL_am hC p tm1 H1 rs cs tm' H' rs' k1 h
      exact ⟨k3, k2.trans k4, k5⟩
/-- The blocks that are made already. -/
def PendOk (P : Program) (ops : Array Oper) (base : Bas) (b0 : Nat) (φ : Emb) (E : Pend) (w : World) : Prop :=
  (E.map (·.2)).Nodup ∧ ∀ e B, (e, B) ∈ E → base.n ≤ B ∧ b0 ≤ B ∧ B < w.heap.size ∧ (∀ (i c : Nat), φ[i]? ≠ some (B, c)) ∧ ∃ oe t z, ops[e]? = some oe ∧ alcLay P oe = some (t, z) ∧ w.heap[B]? = some (.cells ⟨z⟩ t)
theorem PendOk.step {base : Bas} {b0 : Nat} {φ φ' : Emb} {H H' : Heap} {w w' : World} {E : Pend} (h : PendOk P ops base b0 φ E w) (hx : Ext φ φ') (hF : FR φ φ' H H' w w') : PendOk P ops base b0 φ' E w' := by
  refine ⟨h.1, fun e B he => ?_⟩
  obtain ⟨h1, h2, h3, h4, oe, t, z, h5, h6, h7⟩ := h.2 e B he
  refine ⟨h1, h2, Nat.lt_of_lt_of_le h3 hF.size, fun i c hi => ?_, oe, t, z, h5, h6, ?_⟩
  · rcases hF.fresh i B c hi with k | k | ⟨j, d, k⟩
    · rw [hx.old k] at hi; exact h4 i c hi
    · omega
    · exact h4 j d k
  · rw [hF.old B h3 (fun i c => h4 i c)]; exact h7
theorem Sk_alloc {φ : Emb} {H He : Heap} {w : World} {base : Bas} (hH : HR base φ H w) (o : Obj) : ∀ w1, Sk φ H He (w.alloc o) w1 → Sk φ H He w w1 := fun w1 h i B c b hp hb hl hv => by
  rw [h i B c b hp hb hl hv, Go.RowKit.Below.heap_alloc w o B (hH.rng i B c hp).2]
theorem nodup_len : ∀ (l A : List Nat), l.Nodup → (∀ x ∈ l, x ∈ A) → l.length ≤ A.length
  | [], A, _, _ => Nat.zero_le _
  | x :: l, A, hn, h => by
    rw [List.nodup_cons] at hn
    have h1 : x ∈ A := h x (by simp)
    have h2 := nodup_len l (A.erase x) hn.2 (fun y hy => (List.mem_erase_of_ne (fun e => hn.1 (by rw [← e]; exact hy))).2 (h y (by simp [hy])))
    have h3 := List.length_erase_of_mem h1
    have h4 : 0 < A.length := List.length_pos_of_mem h1
    simp only [List.length_cons]
    omega
theorem als_len : ∀ p : PL, (als p).length ≤ p.length
  | [] => Nat.le_refl _
  | (0, j) :: t => by simp only [als, List.length_cons]; have := als_len t; omega
  | (1, j) :: t => by simp only [als, List.length_cons]; have := als_len t; omega
  | (2, j) :: t => by simp only [als, List.length_cons]; have := als_len t; omega
  | (k + 3, j) :: t => by simp only [als, List.length_cons]; have := als_len t; omega
theorem not_in_rest {Bar : List Nat} {t : PL} {listed : Array Bool} {i : Nat} (h : chkR md ops Bar t (listed.setIfInBounds i true) = true) (hi : i < listed.size) : i ∉ t.map (·.2) := fun hm => by
  have := (chk_un h i hm).1
  simp [hi] at this
theorem alc_step {o : Oper} {t : TypeId} {z : List Value} (h : alcLay P o = some (t, z)) {tm tm1 : Tr Value} {H H1 : Heap} (hs : stepO P call N ops tm H o = .ok tm1 H1) : H1 = (newB H t z).2 ∧ putT N tm o.dst (newB H t z).1 = some tm1 := by
  obtain ⟨dst, op, ty, pos, after, guard⟩ := o
  unfold alcLay at h
  split at h <;> try (cases h; done)
  rename_i t' hop
  simp only at hop h
  subst hop
  split at h <;> try (cases h; done)
  split at h <;> try (cases h; done)
  rename_i l' hl
  split at h <;> try (cases h; done)
  rename_i hp
  injection h with h; injection h with h1 h2; subst h1; subst h2
  simp only [stepO, want, stepV, ropF_eq, wopF_eq, ropX, rop, wopX, wop, wAlloc, hl, hp] at hs
  split at hs <;> try (cases hs; done)
  rename_i tm2 hp2
  injection hs with h1 h2; subst h1; subst h2
  exact ⟨rfl, hp2⟩
theorem planR_ok (hC : CallerOk P call) {Q : Exit → Act → World → Prop} {Bar : List Nat} {tl : List Oper} (hsel : Region.noSelect ops = true) (hbR : ∀ b ∈ Bar, b < ops.size) (htl : tl.map some = Bar.map (fun b => ops[b]?)) (hp : ∀ c a w, ¬ Q (.panic c) a w) (hl : ¬ LetsOut Q)
    {A : List Nat} (hA : alsOk P md ops A = true) {base : Bas} {tm' : Tr Value} {He : Heap} {rs' : List (Nat × Nat)} (hcl : ∀ i c, (i, c) ∈ rs' → ∃ b, He.blks.get i = some b ∧ b.live ∧ b.ver ≤ c)
    {φ0 : Emb} {H0 : Heap} {w0 : World} (hH0 : HR base φ0 H0 w0)
    (hL : ∀ φ' a' w', Ext φ0 φ' → HR base φ' He w' → FR φ0 φ' H0 He w0 w' → TR N φ' tm' a' → wpList P ops Q tl a' w') :
    ∀ (m : Nat) (p : PL) (E : Pend) (listed : Array Bool) (φ : Emb) (tm : Tr Value) (H : Heap) (rs : List (Nat × Nat)) (cs : List Cl) (w : World) (a : Act) (f : Nat), p.length + (als p).length ≤ m + E.length → chkR md ops Bar p listed = true → listed.size = ops.size → CInv md ops (setAll listed (idx E)) →
      (∀ e ∈ als p, e ∈ A) → (∀ e ∈ idx E, e ∈ als p) → (idx E).Nodup → PendOk P ops base w0.heap.size φ E w → Ext φ0 φ → HR base φ H w → FR φ0 φ H0 H w0 w → TR N φ tm a → planL P call N ops p tm H rs cs = .ok tm' He rs' → keptL H cs = true → f + E.length = p.length + tl.length →
      wpAnyR P md ops Q (SC cs φ H He w) Bar f (setAll listed (idx E)) (putE ops E a) w := by
  intro m
  induction m with
  | zero =>
    intro p E listed φ tm H rs cs w a f hm hk hsz hI hpA hE hnd hP hx hH hF hT hpl hkc hf
    -- nothing is left
    cases p with
    | nil =>
      have hE0 : E = [] := by
        cases E with
        | nil => rfl
        | cons x E => have := hE x.1 (by simp [idx]); simp [als] at this
      subst hE0
      simp only [List.length_nil, Nat.add_zero, Nat.zero_add] at hf
      subst hf
      injection hpl with h1 h2; subst h1; subst h2
      exact wpAnyR_of_seq Bar tl listed a w (fun b hb => hb) hsz htl hk (hL φ a w hx hH hF hT)
    | cons x p =>
      exfalso
      -- E is in the news of the plan, without a repetition
      have hle : (idx E).length ≤ (als (x :: p)).length := nodup_len _ _ hnd hE
      simp only [idx, List.length_map] at hle
      simp only [List.length_cons] at hm
      omega
  | succ m ih =>
    intro p E listed φ tm H rs cs w a f hm hk hsz hI hpA hE hnd hP hx hH hF hT hpl hkc hf
    have hlenE : E.length ≤ (als p).length := by
      have h9 := nodup_len _ _ hnd hE
      simpa [idx] using h9
    -- a new variable that is made early
    have early : ∀ (e f' : Nat), f = f' + 1 → e ∈ als p → e ∈ Region.ready md ops (setAll listed (idx E)) →
        wpOp P ops Q e (fun a' w' => (owedR Bar ((setAll listed (idx E)).setIfInBounds e true) = true → SC cs φ H He w w') ∧ wpAnyR P md ops Q (SC cs φ H He w) Bar f' ((setAll listed (idx E)).setIfInBounds e true) a' w') (putE ops E a) w := by
      intro e f' hf' he hr
      obtain ⟨oe, t, z, hoe, hal, hap⟩ := alsOk_spec hA (hpA e he)
      obtain ⟨hg, hz, hrun⟩ := alcLay_run hal (putE ops E a).eval w
      have hen : e < ops.size := (Array.getElem?_eq_some_iff.1 hoe).1
      have hunl : e ∉ idx E := fun h0 => by
        have h1 := (mem_ready.1 hr).1
        have h2 := setAll_in listed (idx E) e h0 (by
          have := (Array.getElem?_eq_some_iff.1 hoe).1; omega)
        have h3 : (setAll listed (idx E)).getD e true = true := by
          have hlt : e < (setAll listed (idx E)).size := by rw [setAll_size, hsz]; exact (Array.getElem?_eq_some_iff.1 hoe).1
          simp [hlt] at h2 ⊢; exact h2
        rw [h3] at h1; cases h1
      unfold wpOp
      simp only [hoe]
      rw [if_pos (by simp [Region.wanted, hg])]
      refine .inl ?_
      unfold Oper.wp
      rw [hrun]
      have hS : ∀ w1, SC cs φ H He (w.alloc (.cells ⟨z⟩ t)) w1 → SC cs φ H He w w1 := fun w1 hw1 => ⟨Sk_alloc hH _ w1 hw1.1, hw1.2⟩
      refine ⟨fun _ => hS _ ⟨fun _ _ _ _ _ _ _ _ => rfl, kept_ok (hH.garbage _) hkc⟩, wpAnyR_weak hS _ _ _ _ ?_⟩
      have := ih p ((e, w.heap.size) :: E) listed φ tm H rs cs (w.alloc (.cells ⟨z⟩ t)) a f' (by simp only [List.length_cons]; omega) hk hsz (by
          show CInv md ops ((setAll listed (idx E)).setIfInBounds e true)
          exact hI.set hr hen) hpA (fun x hx => by
          simp only [idx, List.map_cons, List.mem_cons] at hx
          rcases hx with rfl | hx
          · exact he
          · exact hE x hx) (by simp only [idx, List.map_cons, List.nodup_cons]; exact ⟨hunl, hnd⟩) (by
          refine ⟨?_, fun x B hxB => ?_⟩
          · simp only [List.map_cons, List.nodup_cons]
            refine ⟨fun h0 => ?_, hP.1⟩
            obtain ⟨y, hy, hy2⟩ := List.mem_map.1 h0
            have h9 := (hP.2 y.1 y.2 hy).2.2.1
            omega
          · rcases List.mem_cons.1 hxB with h0 | h0
            · injection h0 with h1 h2; subst h1; subst h2
              refine ⟨hH.base, hF.size, by simp, fun i c hi => ?_, oe, t, z, hoe, hal, ?_⟩
              · have := (hH.rng i _ c hi).2; omega
              · show (w.heap.push _)[w.heap.size]? = _
                simp
            · obtain ⟨g1, g2, g3, g4, oe', t', z', g5, g6, g7⟩ := hP.2 x B h0
              exact ⟨g1, g2, by simp; omega, g4, oe', t', z', g5, g6, by rw [Go.RowKit.Below.heap_alloc w _ B g3]; exact g7⟩) hx (hH.garbage _) (hF.garbage hH0 _) hT hpl hkc (by simp only [List.length_cons]; omega)
      have hpe : putE ops ((e, w.heap.size) :: E) a = (putE ops E a).put oe.dst (.pointer (some ⟨w.heap.size, 0, none⟩)) := by
        show (putE ops E a).put ((ops[e]?).bind (·.dst)) _ = _
        rw [hoe]; rfl
      rw [hpe] at this
      exact this
    cases p with
    | nil =>
      have hE0 : E = [] := by
        cases E with
        | nil => rfl
        | cons x E => have := hE x.1 (by simp [idx]); simp [als] at this
      subst hE0
      simp only [List.length_nil, Nat.add_zero, Nat.zero_add] at hf
      subst hf
      injection hpl with h1 h2; subst h1; subst h2
      exact wpAnyR_of_seq Bar tl listed a w (fun b hb => hb) hsz htl hk (hL φ a w hx hH hF hT)
    | cons x p =>
      obtain ⟨k, i⟩ := x
      -- what holds of all kinds
      have hin := chkR_head hk
      obtain ⟨hin, hir, hk'⟩ := hin
      obtain ⟨hiun, oi0, hoi0, hideps⟩ := mem_ready.1 hir
      have hisz : i < listed.size := by rw [hsz]; exact (Array.getElem?_eq_some_iff.1 hoi0).1
      have hiop : i < ops.size := (Array.getElem?_eq_some_iff.1 hoi0).1
      have hsel' : ∀ (j : Nat) (o : Oper) cs b, ops[j]? = some o → o.op ≠ .select cs b := fun j o cs b h => Region.noSelect_spec hsel j o cs b h
      have hrest : i ∉ p.map (·.2) := not_in_rest hk' hisz
      have halp : (als p).length ≤ p.length := als_len p
      have hsz' : (listed.setIfInBounds i true).size = ops.size := by rw [Array.size_setIfInBounds]; exact hsz
      -- an operation of the plan has nothing in common with what is made early
      have hapE : i ∉ idx E → ∀ o, ops[i]? = some o → ∀ e ∈ idx E, ∃ oe, ops[e]? = some oe ∧ oe.apart ops o = true := by
        intro hiE o ho e he
        obtain ⟨oe, t, z, hoe, _, hap⟩ := alsOk_spec hA (hpA e (hE e he))
        refine ⟨oe, hoe, hap i o ho (fun e0 => hiE (by rw [e0]; exact he)) (.inl fun x hx hb hxe => ?_)⟩
        rw [ho] at hoi0; injection hoi0 with hoi0; subst hoi0
        have h1 := hideps x hx hb
        have h2 := (chk_un hk e (als_mem (hE e he))).1
        rw [hxe, getD_both h2] at h1
        cases h1
      -- an operation that is carried out where the plan has it
      have exec : ∀ (k' : Nat), k = k' + 1 → k' + 1 ≠ 3 → k' + 1 ≠ 4 → (decide (Region.ready md ops (setAll listed (als p)) = [i]) = true) → i ∉ idx E → (∀ e ∈ idx E, e ∈ als p) → (∀ e ∈ als p, e ∈ als ((k, i) :: p)) → (∀ e ∈ als p, e ∈ A) → p.length + (als p).length ≤ m + E.length → wpAnyR P md ops Q (SC cs φ H He w) Bar f (setAll listed (idx E)) (putE ops E a) w := by
        intro k' hk1 hk3 hk4 honly hiE hEp hpp hpA' hm'
        subst hk1
        have honly := of_decide_eq_true honly
        rw [planL_succ hk3 hk4] at hpl
        split at hpl <;> try (cases hpl; done)
        rename_i o ho
        split at hpl <;> try (cases hpl; done)
        rename_i tm1 H1 h1
        split at hpl <;> try (cases hpl; done)
        rename_i hkc1
        have hlE := nodup_len _ _ hnd hEp
        simp only [idx, List.length_map] at hlE
        simp only [List.length_cons] at hf
        obtain ⟨f', rfl⟩ : ∃ f', f = f' + 1 := ⟨f - 1, by omega⟩
        have hirE := ready_setAll hir (idx E) hiE
        refine ⟨fun h0 => (by rw [h0] at hirE; cases hirE), fun j hj => ?_⟩
        rcases ready_only honly hsz hEp hj with rfl | hjA
        · refine wpOp_putE ho (fun cs b => Region.noSelect_spec hsel _ o cs b ho) hp hl E (hapE hiE o ho) (K' := fun a' w' => (owedR Bar ((setAll listed (idx E)).setIfInBounds _ true) = true → SC cs φ H He w w') ∧ wpAnyR P md ops Q (SC cs φ H He w) Bar f' ((setAll listed (idx E)).setIfInBounds _ true) (putE ops E a') w') (fun a' w' hk => hk) ?_
          have hstep := stepO_ok (Q := Q) hC hH hT h1 (K := fun a' w' => (owedR Bar ((setAll listed (idx E)).setIfInBounds j true) = true → SC cs φ H He w w') ∧ wpAnyR P md ops Q (SC cs φ H He w) Bar f' ((setAll listed (idx E)).setIfInBounds j true) (putE ops E a') w') fun φ1 a1 w1 k1 k2 k3 k4 => by
            have hAM := (planL_am hC p tm1 H1 rs cs tm' He rs' k2.wf hpl).2.1
            have hSS : ∀ w2, SC cs φ1 H1 He w1 w2 → SC cs φ H He w w2 := fun w2 hw2 => ⟨fun i B c b hpp hb hl hv => by
              have hlt : i < H1.next := by
                have h8 := (List.getElem?_eq_some_iff.1 (k1.get hpp)).1
                rw [k2.len] at h8; exact h8
              obtain ⟨b1, g1, g2, g3⟩ := hAM.mono i b hlt hb hl
              rw [hw2.1 i B c b (k1.get hpp) hb hl (Nat.le_trans hv k3.clock), k3.clean i B c b1 hpp g1 g2 (Nat.le_trans g3 hv)], ClOk.back hH hkc k1 hw2.2⟩
            refine ⟨fun _ => hSS _ ⟨fun _ _ _ _ _ _ _ _ => rfl, kept_ok k2 hkc1⟩, wpAnyR_weak hSS _ _ _ _ ?_⟩
            have := ih p E (listed.setIfInBounds j true) φ1 tm1 H1 rs cs w1 a1 f' hm' hk' hsz' (by rw [setAll_set]; exact hI.set hirE hiop) hpA' hEp hnd (hP.step k1 k3) (hx.trans k1) k2 (hF.trans hx k1 k3) k4 hpl hkc1 (by omega)
            rw [setAll_set] at this
            exact this
          unfold wpOp
          simp only [ho]
          split at hstep
          · rename_i hw; rw [if_pos hw]; exact .inl hstep
          · rename_i hw; rw [if_neg hw]; exact hstep
        · exact early j f' rfl (hpp j hjA) hj
      match k, hk, exec, early, hpl, hm, hE, hpA with
      | 0, hk, _, _, hpl0, hm, hE, hpA =>
        clear hpl
        simp only [chkR, Bool.and_eq_true] at hk
        have hfree := hk.1.2.1
        have hbar := barB_ok hk.1.2.2 hin
        have hEp : ∀ e ∈ idx E, e ∈ als p := hE
        have hiE : i ∉ idx E := fun h0 => hrest (als_mem (hEp i h0))
        rw [planL_zero] at hpl0
        split at hpl0 <;> try (cases hpl0; done)
        rename_i o ho
        split at hpl0 <;> try (cases hpl0; done)
        rename_i tm1 H1 rs1 h1
        have hlE := nodup_len _ _ hnd hEp
        simp only [idx, List.length_map] at hlE
        simp only [List.length_cons] at hf
        obtain ⟨f', rfl⟩ : ∃ f', f = f' + 1 := ⟨f - 1, by omega⟩
        have hmem := (planL_am hC p tm1 H1 rs1 cs tm' He rs' (by rw [(rdO_same h1).1]; exact hH.wf) hpl0).2.2
        obtain ⟨rfl, k1, v, k2, k3⟩ := rdO_ok (He := He) hH hT h1 (fun i c hi => hcl i c (hmem _ hi))
        obtain ⟨y1, y2⟩ := yields_putX (fun cs b => Region.noSelect_spec hsel _ o cs b ho) E (hapE hiE o ho) (.inl (YieldsIf.mono (T := SC cs φ _ He w) (fun _ h => h.1) k2))
        refine wpAnyR_first ho hsel' (fun c a w h => absurd h (hp _ _ _)) hin hbR (.inr ⟨hbar, fun _ h => h⟩) f' _ _ w hI (fun j oj hoj hne hun hno => Region.free_spec ho hfree j oj hoj hne ?_ hno) (ready_setAll hir (idx E) hiE) y1 (fun _ => ⟨fun _ _ _ _ _ _ _ _ => rfl, kept_ok hH hkc⟩) ?_
        · by_cases hjE : j ∈ idx E
          · have h2 := setAll_in listed (idx E) j hjE (by rw [hsz]; exact (Array.getElem?_eq_some_iff.1 hoj).1)
            have hlt : j < (setAll listed (idx E)).size := by rw [setAll_size, hsz]; exact (Array.getElem?_eq_some_iff.1 hoj).1
            simp [hlt] at h2 hun
            rw [h2] at hun; cases hun
          · rw [setAll_get listed true _ j hjE] at hun; exact hun
        · rw [y2]
          have := ih p E (listed.setIfInBounds i true) φ tm1 _ rs1 cs w (a.put o.dst v) f' (by simp only [List.length_cons, als] at hm; omega) hk' hsz' (by rw [setAll_set]; exact hI.set (ready_setAll hir (idx E) hiE) hiop) hpA hEp hnd hP hx hH hF k3 hpl0 hkc (by omega)
          rw [setAll_set] at this
          exact this
      | 3, hk, _, _, hpl0, hm, hE, hpA =>
        clear hpl
        simp only [chkR, Bool.and_eq_true] at hk
        have hfree := hk.1.2.1
        have hbar := barB_ok hk.1.2.2 hin
        have hEp : ∀ e ∈ idx E, e ∈ als p := hE
        have hiE : i ∉ idx E := fun h0 => hrest (als_mem (hEp i h0))
        rw [planL_cell] at hpl0
        split at hpl0 <;> try (cases hpl0; done)
        rename_i o ho
        split at hpl0 <;> try (cases hpl0; done)
        rename_i x h1
        obtain ⟨tm1, cl⟩ := x
        have hlE := nodup_len _ _ hnd hEp
        simp only [idx, List.length_map] at hlE
        simp only [List.length_cons] at hf
        obtain ⟨f', rfl⟩ : ∃ f', f = f' + 1 := ⟨f - 1, by omega⟩
        obtain ⟨hkc1, v, k2, k3⟩ := rdC_ok (He := He) hH hT h1 hkc
        obtain ⟨y1, y2⟩ := yields_putX (fun cs b => Region.noSelect_spec hsel _ o cs b ho) E (hapE hiE o ho) (.inl k2)
        refine wpAnyR_weak (T := SC (cl :: cs) φ H He w) (fun w1 hw1 => ⟨hw1.1, fun i o v hm => hw1.2 i o v (List.mem_cons_of_mem _ hm)⟩) _ _ _ _ ?_
        refine wpAnyR_first ho hsel' (fun c a w h => absurd h (hp _ _ _)) hin hbR (.inr ⟨hbar, fun _ h => h⟩) f' _ _ w hI (fun j oj hoj hne hun hno => Region.free_spec ho hfree j oj hoj hne ?_ hno) (ready_setAll hir (idx E) hiE) y1 (fun _ => ⟨fun _ _ _ _ _ _ _ _ => rfl, kept_ok hH hkc1⟩) ?_
        · by_cases hjE : j ∈ idx E
          · have h2 := setAll_in listed (idx E) j hjE (by rw [hsz]; exact (Array.getElem?_eq_some_iff.1 hoj).1)
            have hlt : j < (setAll listed (idx E)).size := by rw [setAll_size, hsz]; exact (Array.getElem?_eq_some_iff.1 hoj).1
            simp [hlt] at h2 hun
            rw [h2] at hun; cases hun
          · rw [setAll_get listed true _ j hjE] at hun; exact hun
        · rw [y2]
          have := ih p E (listed.setIfInBounds i true) φ tm1 _ rs (cl :: cs) w (a.put o.dst v) f' (by simp only [List.length_cons, als] at hm; omega) hk' hsz' (by rw [setAll_set]; exact hI.set (ready_setAll hir (idx E) hiE) hiop) hpA hEp hnd hP hx hH hF k3 hpl0 hkc1 (by omega)
          rw [setAll_set] at this
          exact this
      | 4, hk, _, _, hpl0, hm, hE, hpA =>
        clear hpl
        simp only [chkR, Bool.and_eq_true] at hk
        have hfree := hk.1.2
        have hEp : ∀ e ∈ idx E, e ∈ als p := hE
        have hiE : i ∉ idx E := fun h0 => hrest (als_mem (hEp i h0))
        rw [planL_pure] at hpl0
        split at hpl0 <;> try (cases hpl0; done)
        rename_i o ho
        split at hpl0 <;> try (cases hpl0; done)
        rename_i tm1 h1
        have hlE := nodup_len _ _ hnd hEp
        simp only [idx, List.length_map] at hlE
        simp only [List.length_cons] at hf
        obtain ⟨f', rfl⟩ : ∃ f', f = f' + 1 := ⟨f - 1, by omega⟩
        obtain ⟨v, k2, k3⟩ := rdP_ok hH hT h1
        obtain ⟨y1, y2⟩ := yields_putX (fun cs b => Region.noSelect_spec hsel _ o cs b ho) E (hapE hiE o ho) k2
        refine wpAnyR_first ho hsel' (fun c a w h => absurd h (hp _ _ _)) hin hbR (.inl fun _ => trivial) f' _ _ w hI (fun j oj hoj hne hun hno => Region.free_spec ho hfree j oj hoj hne ?_ hno) (ready_setAll hir (idx E) hiE) y1 (fun _ => ⟨fun _ _ _ _ _ _ _ _ => rfl, kept_ok hH hkc⟩) ?_
        · by_cases hjE : j ∈ idx E
          · have h2 := setAll_in listed (idx E) j hjE (by rw [hsz]; exact (Array.getElem?_eq_some_iff.1 hoj).1)
            have hlt : j < (setAll listed (idx E)).size := by rw [setAll_size, hsz]; exact (Array.getElem?_eq_some_iff.1 hoj).1
            simp [hlt] at h2 hun
            rw [h2] at hun; cases hun
          · rw [setAll_get listed true _ j hjE] at hun; exact hun
        · rw [y2]
          have := ih p E (listed.setIfInBounds i true) φ tm1 _ rs cs w (a.put o.dst v) f' (by simp only [List.length_cons, als] at hm; omega) hk' hsz' (by rw [setAll_set]; exact hI.set (ready_setAll hir (idx E) hiE) hiop) hpA hEp hnd hP hx hH hF k3 hpl0 hkc (by omega)
          rw [setAll_set] at this
          exact this
      | 1, hk, exec, _, hpl, hm, hE, hpA =>
        have hEp : ∀ e ∈ idx E, e ∈ als p := hE
        have hiE : i ∉ idx E := fun h0 => hrest (als_mem (hEp i h0))
        simp only [chkR, Bool.and_eq_true] at hk
        exact exec 0 rfl (by omega) (by omega) hk.1.2 hiE hEp (fun e he => he) hpA (by simp only [List.length_cons, als] at hm; omega)
      | k + 5, hk, exec, _, hpl, hm, hE, hpA =>
        have hEp : ∀ e ∈ idx E, e ∈ als p := hE
        have hiE : i ∉ idx E := fun h0 => hrest (als_mem (hEp i h0))
        simp only [chkR, Bool.and_eq_true] at hk
        exact exec (k + 4) rfl (by omega) (by omega) hk.1.2 hiE hEp (fun e he => he) hpA (by simp only [List.length_cons, als] at hm; omega)
      | 2, hk, exec, _, hpl, hm, hE, hpA =>
        have hEp' : ∀ e ∈ idx E, e = i ∨ e ∈ als p := fun e he => by
          have := hE e he
          simp only [als, List.mem_cons] at this
          exact this
        have hpA' : ∀ e ∈ als p, e ∈ A := fun e he => hpA e (by simp only [als, List.mem_cons]; exact .inr he)
        by_cases hiE : i ∈ idx E
        · -- it has been made
          obtain ⟨⟨i', B⟩, hiB, hii⟩ := List.mem_map.1 hiE
          simp only at hii
          subst hii
          obtain ⟨b1, b2, b3, b4, oe, t, z, b5, b6, b7⟩ := hP.2 _ B hiB
          rw [planL_succ (by omega) (by omega)] at hpl
          rw [b5] at hpl
          simp only at hpl
          split at hpl <;> try (cases hpl; done)
          rename_i tm1 H1 h1
          split at hpl <;> try (cases hpl; done)
          rename_i hkc1
          obtain ⟨rfl, hput⟩ := alc_step b6 h1
          obtain ⟨hg, hz, _⟩ := alcLay_run b6 a.eval w
          obtain ⟨E', t1, t2, t3, t4, t5, t6⟩ := take_out E hiB hnd (fun e he hne d hd => by
            rcases hEp' e he with rfl | he2
            · exact absurd rfl hne
            · obtain ⟨oe2, t2, z2, hoe2, _, hap⟩ := alsOk_spec hA (hpA' e he2)
              have hap2 := (Oper.apart_spec (hap i' oe b5 (fun e0 => hne e0.symm) (.inr (hpA _ (by simp [als]))))).2.1
              rw [hoe2]
              rw [b5] at hd
              intro hd2
              exact hap2 d hd2 hd)
          obtain ⟨k1, k2, k3, k4⟩ := hH.adopt (.row H.clock t 0 (lenV z) (putL .nil z 0)) B 0 ⟨b1, b3⟩ (fun j d => b4 j d) (Nat.le_refl _) (by rw [b7]; exact BR.fixed (VRs.plain hz) (lenV_eq z))
          have hF1 := k4 φ0 H0 w0 hx hH0 hF b2
          have hT1 : TR N (φ ++ [(B, 0)]) tm1 (a.put oe.dst (.pointer (some ⟨B, 0, none⟩))) := (hT.ext k1).put hput (.ptr k3)
          have hSS : ∀ w2, SC cs (φ ++ [(B, 0)]) (H.push (.row H.clock t 0 (lenV z) (putL .nil z 0))) He w w2 → SC cs φ H He w w2 := fun w2 hw2 => ⟨fun i B c b hpp hb hl hv => hw2.1 i B c b (k1.get hpp) hb hl hv, ClOk.back hH hkc k1 hw2.2⟩
          refine wpAnyR_weak hSS _ _ _ _ ?_
          have hidxE' : ∀ e ∈ idx E', e ∈ als p := fun e he => by
            obtain ⟨y, hy, hy2⟩ := List.mem_map.1 he
            rcases hEp' e (List.mem_map.2 ⟨y, (t1 y).2 (.inr hy), hy2⟩) with rfl | h9
            · exact absurd he t2
            · exact h9
          have hP' : PendOk P ops base w0.heap.size (φ ++ [(B, 0)]) E' w := by
            have hnB : ∀ e B', (e, B') ∈ E' → B' ≠ B := by
              intro e B' he hBB
              subst hBB
              -- two of one block
              have hmap : ∀ (l : Pend) (x y : Nat × Nat), (l.map (·.2)).Nodup → x ∈ l → y ∈ l → x.2 = y.2 → x = y := by
                intro l
                induction l with
                | nil => intro x y _ hx; cases hx
                | cons z l ihl =>
                  intro x y hn hx hy hxy
                  simp only [List.map_cons, List.nodup_cons] at hn
                  rcases List.mem_cons.1 hx with h8 | hx1 <;> rcases List.mem_cons.1 hy with h9 | hy1
                  · rw [h8, h9]
                  · exact absurd (List.mem_map.2 ⟨y, hy1, by rw [← hxy, h8]⟩) hn.1
                  · exact absurd (List.mem_map.2 ⟨x, hx1, by rw [hxy, h9]⟩) hn.1
                  · exact ihl x y hn.2 hx1 hy1 hxy
              have := hmap E (e, B') (i', B') hP.1 ((t1 _).2 (.inr he)) hiB rfl
              injection this with h7 _
              exact t2 (by rw [← h7]; exact List.mem_map.2 ⟨(e, B'), he, rfl⟩)
            refine ⟨?_, fun e B' he => ?_⟩
            · have hsub : ∀ (l l' : Pend), (∀ x, x ∈ l ↔ x = (i', B) ∨ x ∈ l') → (l.map (·.2)).Nodup → (idx l').Nodup → (l'.map (·.2)).Nodup := by
                intro l l' hll hn hn'
                have hinj : ∀ (l : Pend) (x y : Nat × Nat), (l.map (·.2)).Nodup → x ∈ l → y ∈ l → x.2 = y.2 → x = y := by
                  intro l
                  induction l with
                  | nil => intro x y _ hx; cases hx
                  | cons z l ihl =>
                    intro x y hn hx hy hxy
                    simp only [List.map_cons, List.nodup_cons] at hn
                    rcases List.mem_cons.1 hx with h8 | hx1 <;> rcases List.mem_cons.1 hy with h9 | hy1
                    · rw [h8, h9]
                    · exact absurd (List.mem_map.2 ⟨y, hy1, by rw [← hxy, h8]⟩) hn.1
                    · exact absurd (List.mem_map.2 ⟨x, hx1, by rw [hxy, h9]⟩) hn.1
                    · exact ihl x y hn.2 hx1 hy1 hxy
                have hl' : ∀ x ∈ l', x ∈ l := fun x hx => (hll x).2 (.inr hx)
                clear hll
                induction l' with
                | nil => simp
                | cons z l' ihl =>
                  simp only [idx, List.map_cons, List.nodup_cons] at hn'
                  simp only [List.map_cons, List.nodup_cons]
                  refine ⟨fun h0 => ?_, ihl hn'.2 (fun x hx => hl' x (by simp [hx]))⟩
                  obtain ⟨y, hy, hy2⟩ := List.mem_map.1 h0
                  have := hinj l y z hn (hl' y (by simp [hy])) (hl' z (by simp)) hy2
                  subst this
                  exact hn'.1 (List.mem_map.2 ⟨y, hy, rfl⟩)
              exact hsub E E' t1 hP.1 t3
            · obtain ⟨g1, g2, g3, g4, oe', t', z', g5, g6, g7⟩ := hP.2 e B' ((t1 _).2 (.inr he))
              refine ⟨g1, g2, g3, fun j c hj => ?_, oe', t', z', g5, g6, g7⟩
              by_cases hlt : j < φ.length
              · rw [List.getElem?_append_left hlt] at hj; exact g4 j c hj
              · rw [List.getElem?_append_right (by omega)] at hj
                cases hjz : j - φ.length with
                | zero => rw [hjz] at hj; simp at hj; exact hnB e B' he hj.1.symm
                | succ q => rw [hjz] at hj; simp at hj
          have := ih p E' (listed.setIfInBounds i' true) (φ ++ [(B, 0)]) tm1 _ rs cs w (a.put oe.dst (.pointer (some ⟨B, 0, none⟩))) f (by simp only [List.length_cons, als] at hm; omega) hk' hsz' (by
              rw [setAll_set, ← t6 listed]; exact hI) hpA' hidxE' t3 hP' (hx.trans k1) k2 hF1 hT1 hpl hkc1 (by simp only [List.length_cons] at hf; omega)
          rw [setAll_set, ← t6 listed] at this
          rw [t5 a, b5]
          exact this
        · have hEp : ∀ e ∈ idx E, e ∈ als p := fun e he => (hEp' e he).resolve_left (fun e0 => hiE (by rw [← e0]; exact he))
          simp only [chkR, Bool.and_eq_true] at hk
          exact exec 1 rfl (by omega) (by omega) hk.1.2 hiE hEp (fun e he => by simp only [als, List.mem_cons]; exact .inr he) hpA' (by simp only [List.length_cons, als] at hm; omega)
end
end Go.Ev
namespace Go.Ev
open Go Go.RowKit
set_option linter.unusedVariables false
set_option linter.unusedSimpArgs false
/-! ## plans, checked -/
/-- What is carried out first, and the tail. -/
abbrev Plan := PL × List Nat
noncomputable def planOk (P : Program) (l : List Oper) (x : Plan) : Bool :=
  and (Region.noSelect l.toArray) (and (and (alsOk P .any l.toArray (als x.1)) (decide (x.1.length + x.2.length = l.toArray.size))) (and (x.2.all fun b => decide (b < l.toArray.size)) (chkR .any l.toArray x.2 x.1 (Array.replicate l.toArray.size false))))
noncomputable def tailO (ops : Array Oper) (B : List Nat) : List Oper := List.rec (motive := fun _ => List Oper) [] (fun b _ ih => Option.rec (motive := fun _ => List Oper) ih (fun o => o :: ih) (opAt ops b)) B
theorem tailO_ok {ops : Array Oper} : ∀ {B : List Nat}, (∀ b ∈ B, b < ops.size) → (tailO ops B).map some = B.map (fun b => ops[b]?)
  | [], _ => rfl
  | b :: B, h => by
    have h1 : tailO ops (b :: B) = Option.rec (motive := fun _ => List Oper) (tailO ops B) (fun o => o :: tailO ops B) (opAt ops b) := rfl
    have hb := h b (by simp)
    rw [h1, opAt_eq, Array.getElem?_eq_getElem hb]
    simp only [List.map_cons, List.cons.injEq]
    exact ⟨(Array.getElem?_eq_getElem hb).symm, tailO_ok (fun x hx => h x (by simp [hx]))⟩
/-- Are the plans that a table holds for a function's regions right? -/
noncomputable def allR (P : Program) (tb : Tr Plan) (c : Code) : Bool :=
  Code.rec (motive := fun _ => Bool) true (fun id ops draw => match draw with | false => true | true => (match tb.get id with | some p => planOk P ops.toList p | none => true)) (fun _ _ x y => and x y) (fun _ _ _ x y => and x y) (fun _ _ x => x) (fun _ x => x) (fun _ _ _ _ _ _ => true) (fun _ => true) (fun _ x => x) (fun _ => true) (fun _ => true) true (fun _ => true) c
theorem allR_nil {P : Program} : ∀ c : Code, allR P .nil c = true := by
  intro c
  induction c with
  | region id ops draw =>
    cases draw with
    | false => rfl
    | true =>
      show (match (Tr.nil : Tr Plan).get id with | some p => planOk P ops.toList p | none => true) = true
      rw [Tr.get_nil]
  | seq a b ha hb => show and (allR P .nil a) (allR P .nil b) = true; rw [ha, hb]; rfl
  | cond x a b ha hb => show and (allR P .nil a) (allR P .nil b) = true; rw [ha, hb]; rfl
  | block _ a ha => exact ha
  | loop a ha => exact ha
  | scope a ha => exact ha
  | _ => rfl
noncomputable def regO (P : Program) (call : Caller) (N : Nat) (pl : Option Plan) (ops : Array Oper) (draw : Bool) (tm : Tr Value) (H : Heap) : Ro :=
  match draw with
  | false => seqO P call N ops ops.toList tm H
  | true => match pl with
    | some x => match planL P call N ops x.1 tm H [] [] with
      | .ok tm' H' rs => match cleanL H' rs with
        | true => seqO P call N ops (tailO ops x.2) tm' H'
        | false => .err (.dirty ops.toList)
      | .err e => .err e
    | none => .err (.plan ops.toList)
noncomputable def cleanB (b : Option ABlk) (c : Nat) : Bool :=
  Option.rec (motive := fun _ => Bool) false (fun b => ABlk.rec (motive := fun _ => Nat → Bool) (fun _ => false) (fun v _ _ _ _ c => Nat.ble v c) (fun v _ _ c => Nat.ble v c) (fun v _ _ c => Nat.ble v c) (fun _ _ _ => true) b c) b
noncomputable def cleanLF (H : Heap) (rs : List (Nat × Nat)) : Bool := List.rec (motive := fun _ => Bool) true (fun x _ ih => Bool.rec (motive := fun _ => Bool) false ih (cleanB (H.blks.get x.1) x.2)) rs
theorem cleanLF_eq (H : Heap) : ∀ rs, cleanLF H rs = cleanL H rs
  | [] => rfl
  | x :: rs => by
    have h1 : cleanLF H (x :: rs) = Bool.rec (motive := fun _ => Bool) false (cleanLF H rs) (cleanB (H.blks.get x.1) x.2) := rfl
    have h2 : cleanL H (x :: rs) = (match H.blks.get x.1 with
    | some (.row v _ _ _ _) => (match Nat.ble v x.2 with | true => cleanL H rs | false => false)
    | some (.iter v _ _) => (match Nat.ble v x.2 with | true => cleanL H rs | false => false)
    | some (.map v _ _) => (match Nat.ble v x.2 with | true => cleanL H rs | false => false)
    | some (.ro _ _) => cleanL H rs
    | _ => false) := rfl
    rw [h1, h2, cleanLF_eq H rs]
    cases H.blks.get x.1 with
    | none => rfl
    | some b => cases b with
      | row v e s n cs => show Bool.rec (motive := fun _ => Bool) false (cleanL H rs) (Nat.ble v x.2) = (match Nat.ble v x.2 with | true => cleanL H rs | false => false); cases Nat.ble v x.2 <;> rfl
      | iter v s p => show Bool.rec (motive := fun _ => Bool) false (cleanL H rs) (Nat.ble v x.2) = (match Nat.ble v x.2 with | true => cleanL H rs | false => false); cases Nat.ble v x.2 <;> rfl
      | map v s p => show Bool.rec (motive := fun _ => Bool) false (cleanL H rs) (Nat.ble v x.2) = (match Nat.ble v x.2 with | true => cleanL H rs | false => false); cases Nat.ble v x.2 <;> rfl
      | _ => rfl
/-- behind a plan -/
noncomputable def planI (P : Program) (call : Caller) (N : Nat) (ops : Array Oper) (p : PL) (B : List Nat) (tm : Tr Value) (H : Heap) : Ro :=
  Rp.rec (motive := fun _ => Ro) (fun tm' H' rs => Bool.rec (motive := fun _ => Ro) (.err (.dirty ops.toList)) (seqO P call N ops (tailO ops B) tm' H') (cleanLF H' rs)) .err (planL P call N ops p tm H [] [])
noncomputable def regD (P : Program) (call : Caller) (N : Nat) (pl : Option Plan) (ops : Array Oper) (tm : Tr Value) (H : Heap) : Ro :=
  Option.rec (motive := fun _ => Ro) (.err (.plan ops.toList)) (fun x => planI P call N ops x.1 x.2 tm H) pl
noncomputable def regOF (P : Program) (call : Caller) (N : Nat) (pl : Option Plan) (ops : Array Oper) (draw : Bool) (tm : Tr Value) (H : Heap) : Ro :=
  Bool.rec (motive := fun _ => Ro) (seqO P call N ops ops.toList tm H) (regD P call N pl ops tm H) draw
theorem regOF_eq (P : Program) (call : Caller) (N : Nat) (pl : Option Plan) (ops : Array Oper) (draw : Bool) (tm : Tr Value) (H : Heap) : regOF P call N pl ops draw tm H = regO P call N pl ops draw tm H := by
  cases draw with
  | false => rfl
  | true => cases pl with
    | none => rfl
    | some x =>
      obtain ⟨p, B⟩ := x
      show planI P call N ops p B tm H = _
      unfold planI regO
      simp only
      cases planL P call N ops p tm H [] [] with
      | err e => rfl
      | ok tm' H' rs =>
        simp only [cleanLF_eq]
        cases cleanL H' rs <;> rfl
/-! ## functions -/
noncomputable def resV (P : Program) (tm : Tr Value) (H : Heap) (r : ResultVar) : Option Value :=
  match r with
  | .tmp t => tm.get t
  | .cell a t => match tm.get a with
    | some v => match rLoad P H t v with | some x => some x.1 | none => none
    | none => none
noncomputable def resL (P : Program) (tm : Tr Value) (H : Heap) (rs : List ResultVar) : Option (List Value) :=
  List.rec (motive := fun _ => Option (List Value)) (some []) (fun r _ ih => match resV P tm H r with | some v => (match ih with | some l => some (v :: l) | none => none) | none => none) rs
def oneOf (l : List Value) : Value := match l with | [v] => v | l => .tuple ⟨l⟩
/-- A function's own variables, its body, and its results. -/
noncomputable def nthF (l : List Func) : Nat → Option Func := List.rec (motive := fun _ => Nat → Option Func) (fun _ => none) (fun x _ ih n => Nat.rec (motive := fun _ => Option Func) (some x) (fun m _ => ih m) n) l
theorem nthF_eq : ∀ (l : List Func) (n : Nat), nthF l n = l[n]?
  | [], n => by cases n <;> rfl
  | x :: l, 0 => rfl
  | x :: l, n + 1 => by show nthF l n = _; rw [nthF_eq l n]; rfl
noncomputable def fnsL (a : Array Func) : List Func := Array.rec (motive := fun _ => List Func) (fun l => l) a
noncomputable def fnAt (P : Program) (f : FuncId) : Option Func := nthF (fnsL P.funcs) f
theorem fnAt_eq (P : Program) (f : FuncId) : fnAt P f = P.funcs[f]? := by
  unfold fnAt
  cases P.funcs with
  | mk l => show nthF l f = _; rw [nthF_eq]; simp
noncomputable def fnOf (P : Program) (f : FuncId) : Option (Nat × Code × List ResultVar) :=
  match fnAt P f with
  | some fn => match fn.body with
    | some c => match fn.name == "runtime.NumGoroutine" with
      | true => none
      | false => some (fn.ntmps, c, fn.results.toList)
    | none => none
  | none => none
abbrev Body := Tr Plan → Nat → Code → Tr Value → Heap → Rs
abbrev Tab := Tr (Tr Plan)
noncomputable def tabOf (T : Tab) (f : FuncId) : Tr Plan := match T.get f with | some tb => tb | none => .nil
noncomputable def runF (P : Program) (T : Tab) (body : Body) (f : FuncId) (args : List Value) (H : Heap) : Rc :=
  match fnOf P f with
  | some (N, c, rs) => match Nat.ble (lenV args) N with
    | true => match body (tabOf T f) N c (putL .nil args 0) H with
      | .ok .normal tm H' => match resL P tm H' rs with | some l => .ok (oneOf l) H' | none => .err (.res f)
      | .ok .ret tm H' => match resL P tm H' rs with | some l => .ok (oneOf l) H' | none => .err (.res f)
      | .ok _ _ _ => .err (.res f)
      | .err e => .err e
    | false => .err (.res f)
  | none => .err (.fn f)
abbrev Hook := FuncId → Option (List Value → Heap → Option (Value × Heap))
/-- A function without a body, at arguments without addresses. -/
noncomputable def extF (P : Program) (f : FuncId) : Option (Bool × (Array Value → Sem Value)) :=
  match P.funcs[f]? with
  | some fn => match fn.body with
    | none => match fn.name == "runtime.NumGoroutine" with
      | true => none
      | false => match Extern.findNext fn with
        | none => match Extern.find fn with
          | some e => some (fn.name == "internal/abi.NoEscape", e)
          | none => none
        | some _ => none
    | some _ => none
  | none => none
noncomputable def extV (P : Program) (f : FuncId) (args : List Value) (H : Heap) : Rc :=
  match extF P f with
  | some (false, e) => match plainL args with
    | true => match qrun P (e ⟨args⟩) with
      | some v => match plain v with | true => .ok v H | false => .err (.fn f)
      | none => .err (.fn f)
    | false => .err (.fn f)
  | some (true, _) => match args with | [v] => .ok v H | _ => .err (.fn f)
  | none => .err (.fn f)
/-- The value by which a hook says: stop here. -/
def isStop : Value → Bool | .chan none => true | _ => false
noncomputable def callH (P : Program) (T : Tab) (hk : Hook) (body : Body) : Caller := fun f args H =>
  match (match hk f with | some g => g args H | none => none) with
  | some r => match isStop r.1 with | true => .err (.stop f args H) | false => .ok r.1 r.2
  | none => match fnOf P f with
    | some _ => runF P T body f args H
    | none => extV P f args H
noncomputable def codeStep (P : Program) (T : Tab) (hk : Hook) (ih : Body) (tb : Tr Plan) (N : Nat) (c : Code) (tm : Tr Value) (H : Heap) : Rs :=
  match c with
  | .skip => .ok .normal tm H
  | .label _ => .ok .normal tm H
  | .region id ops draw => match regO P (callH P T hk ih) N (tb.get id) ops draw tm H with | .ok tm' H' => .ok .normal tm' H' | .err e => .err e
  | .seq a b => match ih tb N a tm H with
    | .ok .normal tm' H' => ih tb N b tm' H'
    | r => r
  | .cond x a b => match ev tm x with
    | some (.bool true) => ih tb N a tm H
    | some (.bool false) => ih tb N b tm H
    | _ => .err (.code c)
  | .block id a => match ih tb N a tm H with
    | .ok (.exit k) tm' H' => match Nat.beq k id with | true => .ok .normal tm' H' | false => .ok (.exit k) tm' H'
    | r => r
  | .loop a => match ih tb N a tm H with
    | .ok .normal tm' H' => ih tb N (.loop a) tm' H'
    | r => r
  | .exit id => .ok (.exit id) tm H
  | .scope a => ih tb N a tm H
  | .ret => .ok .ret tm H
  | _ => .err (.code c)
/-! the same, by one look at the code -/
noncomputable def rsK (ih : Tr Value → Heap → Rs) (e : Ex) (tm : Tr Value) (H : Heap) : Rs := Ex.rec (motive := fun _ => Rs) (ih tm H) (fun k => .ok (.exit k) tm H) (.ok .ret tm H) e
noncomputable def rsB (id : Nat) (e : Ex) (tm : Tr Value) (H : Heap) : Rs :=
  Ex.rec (motive := fun _ => Rs) (.ok .normal tm H) (fun k => Bool.rec (motive := fun _ => Rs) (.ok (.exit k) tm H) (.ok .normal tm H) (Nat.beq k id)) (.ok .ret tm H) e
noncomputable def cndB (x : Operand) (a b : Code) (ih : Body) (tb : Tr Plan) (N : Nat) (tm : Tr Value) (H : Heap) (c : Bool) : Rs := Bool.rec (motive := fun _ => Rs) (ih tb N b tm H) (ih tb N a tm H) c
noncomputable def cndV (v : Value) (x : Operand) (a b : Code) (ih : Body) (tb : Tr Plan) (N : Nat) (tm : Tr Value) (H : Heap) : Rs :=
  Vw.rec (motive := fun _ => (Bool → Rs) → Rs → Rs) (fun _ e => e) (fun c k _ => k c) (fun _ _ _ e => e) (fun _ _ e => e) (fun _ _ _ e => e) (fun _ _ e => e) (fun _ _ e => e) (fun _ _ _ _ e => e) (vw v) (cndB x a b ih tb N tm H) (.err (.code (.cond x a b)))
noncomputable def cdRegion (id : Nat) (ops : Array Oper) (draw : Bool) (P : Program) (T : Tab) (hk : Hook) (ih : Body) (tb : Tr Plan) (N : Nat) (tm : Tr Value) (H : Heap) : Rs :=
  Ro.rec (motive := fun _ => Rs) (.ok .normal) .err (regOF P (callH P T hk ih) N (tb.get id) ops draw tm H)
noncomputable def cdSeq (a b : Code) (_ _ : Program → Tab → Hook → Body → Tr Plan → Nat → Tr Value → Heap → Rs) (P : Program) (T : Tab) (hk : Hook) (ih : Body) (tb : Tr Plan) (N : Nat) (tm : Tr Value) (H : Heap) : Rs :=
  Rs.rec (motive := fun _ => Rs) (rsK (ih tb N b)) .err (ih tb N a tm H)
noncomputable def cdCond (x : Operand) (a b : Code) (_ _ : Program → Tab → Hook → Body → Tr Plan → Nat → Tr Value → Heap → Rs) (P : Program) (T : Tab) (hk : Hook) (ih : Body) (tb : Tr Plan) (N : Nat) (tm : Tr Value) (H : Heap) : Rs :=
  Option.rec (motive := fun _ => Rs) (.err (.code (.cond x a b))) (fun v => cndV v x a b ih tb N tm H) (ev tm x)
noncomputable def cdBlock (id : Nat) (a : Code) (_ : Program → Tab → Hook → Body → Tr Plan → Nat → Tr Value → Heap → Rs) (P : Program) (T : Tab) (hk : Hook) (ih : Body) (tb : Tr Plan) (N : Nat) (tm : Tr Value) (H : Heap) : Rs :=
  Rs.rec (motive := fun _ => Rs) (rsB id) .err (ih tb N a tm H)
noncomputable def cdLoop (a : Code) (_ : Program → Tab → Hook → Body → Tr Plan → Nat → Tr Value → Heap → Rs) (P : Program) (T : Tab) (hk : Hook) (ih : Body) (tb : Tr Plan) (N : Nat) (tm : Tr Value) (H : Heap) : Rs :=
  Rs.rec (motive := fun _ => Rs) (rsK (ih tb N (.loop a))) .err (ih tb N a tm H)
noncomputable def codeStepF (P : Program) (T : Tab) (hk : Hook) (ih : Body) : Body := fun tb N c tm H =>
  Code.rec (motive := fun _ => Program → Tab → Hook → Body → Tr Plan → Nat → Tr Value → Heap → Rs)
    (fun _ _ _ _ _ _ tm H => .ok .normal tm H) cdRegion cdSeq cdCond cdBlock cdLoop
    (fun f ps x y _ _ _ _ _ _ _ _ _ _ => .err (.code (.rangeFunc f ps x y)))
    (fun id _ _ _ _ _ _ tm H => .ok (.exit id) tm H)
    (fun a _ _ _ _ ih tb N tm H => ih tb N a tm H)
    (fun _ _ _ _ _ _ _ tm H => .ok .normal tm H)
    (fun l _ _ _ _ _ _ _ _ => .err (.code (.goto l)))
    (fun _ _ _ _ _ _ tm H => .ok .ret tm H)
    (fun s _ _ _ _ _ _ _ _ => .err (.code (.refuse s))) c P T hk ih tb N tm H
theorem codeStepF_eq (P : Program) (T : Tab) (hk : Hook) (ih : Body) : codeStepF P T hk ih = codeStep P T hk ih := by
  funext tb N c tm H
  cases c with
  | region id ops draw =>
    show (Ro.rec (motive := fun _ => Rs) (.ok .normal) .err (regOF P (callH P T hk ih) N (tb.get id) ops draw tm H) : Rs) = _
    rw [regOF_eq]
    simp only [codeStep]
    cases regO P (callH P T hk ih) N (tb.get id) ops draw tm H <;> rfl
  | seq a b =>
    show (Rs.rec (motive := fun _ => Rs) (rsK (ih tb N b)) .err (ih tb N a tm H) : Rs) = _
    simp only [codeStep]
    cases ih tb N a tm H with
    | err e => rfl
    | ok e tm' H' => cases e <;> rfl
  | loop a =>
    show (Rs.rec (motive := fun _ => Rs) (rsK (ih tb N (.loop a))) .err (ih tb N a tm H) : Rs) = _
    simp only [codeStep]
    cases ih tb N a tm H with
    | err e => rfl
    | ok e tm' H' => cases e <;> rfl
  | block id a =>
    show (Rs.rec (motive := fun _ => Rs) (rsB id) .err (ih tb N a tm H) : Rs) = _
    simp only [codeStep]
    cases ih tb N a tm H with
    | err e => rfl
    | ok e tm' H' => cases e with
      | exit k =>
        show (Bool.rec (motive := fun _ => Rs) (.ok (.exit k) tm' H') (.ok .normal tm' H') (Nat.beq k id) : Rs) = _
        simp only
        cases Nat.beq k id <;> rfl
      | _ => rfl
  | cond x a b =>
    show (Option.rec (motive := fun _ => Rs) (.err (.code (.cond x a b))) (fun v => cndV v x a b ih tb N tm H) (ev tm x) : Rs) = _
    simp only [codeStep]
    cases ev tm x with
    | none => rfl
    | some v => cases v with
      | bool c => cases c <;> rfl
      | pointer x => cases x with
        | none => rfl
        | some x => obtain ⟨i, o, p⟩ := x; cases p <;> rfl
      | func f _ _ => cases f <;> rfl
      | _ => rfl
  | _ => rfl
noncomputable def run (P : Program) (T : Tab) (hk : Hook) (n : Nat) : Body :=
  Nat.rec (motive := fun _ => Body) (fun _ _ _ _ _ => .err .fuel) (fun _ ih => codeStepF P T hk ih) n
noncomputable def runFn (P : Program) (T : Tab) (hk : Hook) (n : Nat) : Caller := runF P T (run P T hk n)
noncomputable def H0 : Heap := ⟨0, 0, .nil⟩
end Go.Ev
