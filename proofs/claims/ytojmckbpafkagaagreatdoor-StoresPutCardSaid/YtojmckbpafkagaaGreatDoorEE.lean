import Derived.Test.YtojmckbpafkagaaGreatDoorED
namespace Go.Ev
open Go Go.RowKit
set_option linter.unusedVariables false
set_option linter.unusedSimpArgs false

noncomputable def evL (tm : Tr Value) (xs : List Operand) : Option (List Value) :=
  List.rec (motive := fun _ => Option (List Value)) (some []) (fun x _ ih => match ev tm x with | some v => (match ih with | some l => some (v :: l) | none => none) | none => none) xs
theorem TR.evL {N : Nat} {φ : Emb} {tm : Tr Value} {a : Act} (h : TR N φ tm a) : ∀ {xs : List Operand} {l : List Value}, evL tm xs = some l → VRs φ l (xs.map a.eval)
  | [], l, hx => by
    have : [] = l := by injection hx
    subst this; exact VRs.nil φ
  | x :: xs, l, hx => by
    have hx' : (match Ev.ev tm x with | some v => (match Ev.evL tm xs with | some l => some (v :: l) | none => none) | none => none) = some l := hx
    split at hx' <;> try (cases hx'; done)
    rename_i v hv
    split at hx' <;> try (cases hx'; done)
    rename_i l' hl'
    injection hx' with hx'; subst hx'
    exact VRs.cons (h.ev hv) (h.evL hl')
noncomputable def evP (tm : Tr Value) (xs : List (Nat × Operand)) : Option (List (Nat × Value)) :=
  List.rec (motive := fun _ => Option (List (Nat × Value))) (some []) (fun x _ ih => match ev tm x.2 with | some v => (match ih with | some l => some ((x.1, v) :: l) | none => none) | none => none) xs
theorem TR.evP {N : Nat} {φ : Emb} {tm : Tr Value} {a : Act} (h : TR N φ tm a) : ∀ {xs : List (Nat × Operand)} {l : List (Nat × Value)}, evP tm xs = some l → PRs φ l (xs.map (fun (i, x) => (i, a.eval x)))
  | [], l, hx => by
    have : [] = l := by injection hx
    subst this; exact .nil
  | (i, x) :: xs, l, hx => by
    have hx' : (match Ev.ev tm x with | some v => (match Ev.evP tm xs with | some l => some ((i, v) :: l) | none => none) | none => none) = some l := hx
    split at hx' <;> try (cases hx'; done)
    rename_i v hv
    split at hx' <;> try (cases hx'; done)
    rename_i l' hl'
    injection hx' with hx'; subst hx'
    exact .cons (h.ev hv) (h.evP hl')
noncomputable def evO (tm : Tr Value) (x : Option Operand) : Option (Option Value) :=
  match x with
  | none => some none
  | some x => match ev tm x with | some v => some (some v) | none => none
theorem TR.evO {N : Nat} {φ : Emb} {tm : Tr Value} {a : Act} (h : TR N φ tm a) {x : Option Operand} {v : Option Value} (hx : evO tm x = some v) : VO φ v (x.map a.eval) := by
  cases x with
  | none => simp only [Ev.evO] at hx; injection hx with hx; exact .inl ⟨hx.symm, rfl⟩
  | some x =>
    simp only [Ev.evO] at hx
    split at hx <;> try (cases hx; done)
    rename_i u hu
    injection hx with hx; exact .inr ⟨u, a.eval x, hx.symm, rfl, h.ev hu⟩
noncomputable def opPick (tm : Tr Value) (c a b : Operand) : Option (Value × Option Nat) :=
  match ev tm c with
  | some (.bool true) => match ev tm a with | some v => some (v, none) | none => none
  | some (.bool false) => match ev tm b with | some v => some (v, none) | none => none
  | _ => none
noncomputable def op1 (tm : Tr Value) (x : Operand) (f : Value → Option (Value × Option Nat)) : Option (Value × Option Nat) :=
  match ev tm x with | some v => f v | none => none
noncomputable def op2 (tm : Tr Value) (x y : Operand) (f : Value → Value → Option (Value × Option Nat)) : Option (Value × Option Nat) :=
  match ev tm x with | some v => (match ev tm y with | some u => f v u | none => none) | none => none
noncomputable def opSlice (P : Program) (tm : Tr Value) (t : TypeId) (x : Operand) (lo hi mx : Option Operand) : Option (Value × Option Nat) :=
  match ev tm x with
  | some v => match evO tm lo with
    | some l => match evO tm hi with
      | some h => match evO tm mx with
        | some m => rSlice P t v l h m
        | none => none
      | none => none
    | none => none
  | none => none
noncomputable def opFunc (tm : Tr Value) (fn : Fn) (fs gs : Array Operand) : Option (Value × Option Nat) :=
  match fn with
  | .func f => match evL tm fs.toList with
    | some l => match evL tm gs.toList with | some k => some (.func (.func f) ⟨l⟩ ⟨k⟩, none) | none => none
    | none => none
  | _ => none
noncomputable def opBuild (P : Program) (tm : Tr Value) (t : TypeId) (ps : Array (Nat × Operand)) : Option (Value × Option Nat) :=
  match evP tm ps.toList with | some l => rBuild P t l | none => none
def rSData (v : Value) : Option (Value × Option Nat) :=
  match v with
  | .slice none _ _ => some (.pointer none, none)
  | .slice (some ⟨i, o, none⟩) l k => match Nat.blt k unk with
    | true => match k with | 0 => none | _ + 1 => some (.pointer (some ⟨i, o, none⟩), none)
    | false => match l with | 0 => none | _ + 1 => some (.pointer (some ⟨i, o, none⟩), none)
  | _ => none
theorem rSData_ok {P : Program} {φ : Emb} {w : World} {ts : Array TypeId} {ty : TypeId} {x x' : Value} (hx : VR φ x x') {r : Value × Option Nat} (h : rSData x = some r) : ROk P φ w (Builtin.unsafeSliceData_ ts ty #[x']) r := by
  unfold rSData at h
  split at h <;> try (cases h; done)
  · injection h with h; subst h
    cases hx
    exact ROk.const .ptrNil fun w1 => rfl
  · rename_i i o l k
    have main : ∀ (B c k' : Nat), φ[i]? = some (B, c) → k' ≠ 0 → ROk P φ w (Builtin.unsafeSliceData_ ts ty #[.slice (some ⟨B, o, none⟩) l k']) (.pointer (some ⟨i, o, none⟩), none) := by
      intro B c k' hp hk
      refine ROk.const (.ptr hp) fun w1 => ?_
      have hs : Builtin.unsafeSliceData_ ts ty #[.slice (some ⟨B, o, none⟩) l k'] = (if k' ≠ 0 then pure (.pointer (some ⟨B, o, none⟩)) else (do if (← viewAt B).isSome then pure (.pointer (some ⟨B, o, none⟩)) else pure (.pointer (some ⟨← newObj (.view ⟨B, o, none⟩ (← elemOf ty)), 0, none⟩)))) := rfl
      rw [hs, if_pos hk]; rfl
    split at h
    · rename_i hk
      have hk' : k < unk := Nat.le_of_ble_eq_true hk
      split at h <;> try (cases h; done)
      injection h with h; subst h
      cases hx with
      | sl _ _ hk2 hp => exact main _ _ _ hp (by omega)
      | slG _ hp hl => exact absurd hk' (Nat.lt_irrefl _)
      | slO _ c' hp hl ho => exact absurd hk' (Nat.lt_irrefl _)
      | slE _ _ _ => exact absurd hk' (by decide)
    · rename_i hkk
      split at h <;> try (cases h; done)
      injection h with h; subst h
      cases hx with
      | sl _ _ hk2 hp => exact absurd (show Nat.blt k unk = true from Nat.ble_eq_true_of_le hk2) (by rw [hkk]; decide)
      | slG _ hp hl => exact main _ _ _ hp (by omega)
      | slO _ c' hp hl ho => exact main _ _ _ hp (by omega)
noncomputable def opBuiltin (P : Program) (tm : Tr Value) (b : Builtin) (args : Array Operand) (ts : Array TypeId) : Option (Value × Option Nat) :=
  match b with
  | .len => match args.toList with | [x] => (match ts.toList with | [t] => op1 tm x (rLen P t) | _ => none) | _ => none
  | .cap => match args.toList with | [x] => (match ts.toList with | [t] => op1 tm x (rCap P t) | _ => none) | _ => none
  | .min => match args.toList with | [x, y] => op2 tm x y (rMin true) | _ => none
  | .max => match args.toList with | [x, y] => op2 tm x y (rMin false) | _ => none
  | .unsafeSliceData => match args.toList with | [x] => op1 tm x rSData | _ => none
  | _ => none
noncomputable def opCall (P : Program) (tm : Tr Value) (c : Call) : Option (Value × Option Nat) :=
  match c.callee with | .builtin b => opBuiltin P tm b c.args c.argTypes | _ => none
noncomputable def opMkI (P : Program) (t : TypeId) (v : Value) : Option (Value × Option Nat) :=
  match P.underlying t with | some (.interface _) => none | some _ => some (.iface t v, none) | none => none
/-- An operation that reads. -/
noncomputable def rop (P : Program) (H : Heap) (tm : Tr Value) (op : Op) : Option (Value × Option Nat) :=
  match op with
  | .move x => op1 tm x (fun v => some (v, none))
  | .assign x => op1 tm x (fun v => some (v, none))
  | .pick c a b => opPick tm c a b
  | .load t x => op1 tm x (rLoad P H t)
  | .nilCheck x => op1 tm x rNil
  | .binOp op t x y _ => op2 tm x y (rBin P (or (isC x) (isC y)) op t)
  | .unOp op _ x => op1 tm x (rUn P op)
  | .convert s d x => op1 tm x (rConv P H s d)
  | .makeInterface t x => op1 tm x (opMkI P t)
  | .makeFunc fn fs gs => opFunc tm fn fs gs
  | .slice t x lo hi mx => opSlice P tm t x lo hi mx
  | .fieldAddr t x f => op1 tm x (rFieldA P t f)
  | .field t x f => op1 tm x (rField P t f)
  | .indexAddr t x i => op2 tm x i (rIndexA P t)
  | .index t x i => op2 tm x i (rIndex P t)
  | .extract x i => op1 tm x (fun v => rExtract v i)
  | .build t ps => opBuild P tm t ps
  | .call c => opCall P tm c
  | _ => none
/-- What a reading operation gives. -/
def OOk (P : Program) (φ : Emb) (w : World) (ρ : Operand → Value) (o : Oper) (r : Value × Option Nat) : Prop :=
  ∃ v', VR φ r.1 v' ∧ ∀ w1 : World, (∀ i B c, r.2 = some i → φ[i]? = some (B, c) → w1.heap[B]? = w.heap[B]?) → (execOp ρ o).run P w1 = .ok (.value v') w1
theorem ROk.op {P : Program} {φ : Emb} {w : World} {ρ : Operand → Value} {o : Oper} {s : Sem Value} {r : Value × Option Nat} (h : ROk P φ w s r) (he : execOp ρ o = (do pure (.value (← s)))) : OOk P φ w ρ o r := by
  obtain ⟨v', h1, h2⟩ := h
  refine ⟨v', h1, fun w1 hw1 => ?_⟩
  rw [he, Sem.run_bind, h2 w1 hw1]; rfl
theorem ROk.op' {P : Program} {φ : Emb} {w : World} {ρ : Operand → Value} {o : Oper} {s : Sem Value} {r : Value × Option Nat} (h : ROk P φ w s r) (he : ∀ w1, (execOp ρ o).run P w1 = (s.run P w1).andThen fun v w => .ok (.value v) w) : OOk P φ w ρ o r := by
  obtain ⟨v', h1, h2⟩ := h
  refine ⟨v', h1, fun w1 hw1 => ?_⟩
  rw [he, h2 w1 hw1]; rfl
theorem op1_some {tm : Tr Value} {x : Operand} {f : Value → Option (Value × Option Nat)} {r : Value × Option Nat} (h : op1 tm x f = some r) : ∃ v, ev tm x = some v ∧ f v = some r := by
  unfold op1 at h
  split at h <;> try (cases h; done)
  rename_i v hv; exact ⟨v, hv, h⟩
theorem op2_some {tm : Tr Value} {x y : Operand} {f : Value → Value → Option (Value × Option Nat)} {r : Value × Option Nat} (h : op2 tm x y f = some r) : ∃ v u, ev tm x = some v ∧ ev tm y = some u ∧ f v u = some r := by
  unfold op2 at h
  split at h <;> try (cases h; done)
  rename_i v hv
  split at h <;> try (cases h; done)
  rename_i u hu; exact ⟨v, u, hv, hu, h⟩
theorem rop_ok {P : Program} {base : Bas} {N : Nat} {φ : Emb} {H : Heap} {w : World} {tm : Tr Value} {a : Act} (hH : HR base φ H w) (hT : TR N φ tm a) {o : Oper} {r : Value × Option Nat} (h : rop P H tm o.op = some r) : OOk P φ w a.eval o r := by
  obtain ⟨dst, op, ty, pos, after, guard⟩ := o
  simp only at h
  cases op <;> simp only [rop] at h <;> try (cases h; done)
  case move x =>
    obtain ⟨v, hv, h⟩ := op1_some h
    injection h with h; subst h
    exact ⟨_, hT.ev hv, fun w1 _ => rfl⟩
  case assign x =>
    obtain ⟨v, hv, h⟩ := op1_some h
    injection h with h; subst h
    exact ⟨_, hT.ev hv, fun w1 _ => rfl⟩
  case pick c x y =>
    unfold opPick at h
    split at h <;> try (cases h; done)
    · rename_i hc
      split at h <;> try (cases h; done)
      rename_i v hv
      injection h with h; subst h
      have hc' := hT.ev hc
      refine ⟨_, hT.ev hv, fun w1 _ => ?_⟩
      generalize he : a.eval c = b at hc'
      cases hc'
      simp [execOp, he, asBool]
    · rename_i hc
      split at h <;> try (cases h; done)
      rename_i v hv
      injection h with h; subst h
      have hc' := hT.ev hc
      refine ⟨_, hT.ev hv, fun w1 _ => ?_⟩
      generalize he : a.eval c = b at hc'
      cases hc'
      simp [execOp, he, asBool]
  case load t x =>
    obtain ⟨v, hv, h⟩ := op1_some h
    exact (rLoad_ok hH (hT.ev hv) h).op rfl
  case nilCheck x =>
    obtain ⟨v, hv, h⟩ := op1_some h
    obtain ⟨v', h1, h2⟩ := rNil_ok (P := P) (w := w) (tm := tm) (hT.ev hv) h ⟨dst, .nilCheck x, ty, pos, after, guard⟩ x rfl a.eval rfl
    exact ⟨v', h1, fun w1 _ => h2 w1⟩
  case binOp op t x y yt =>
    obtain ⟨v, u, hv, hu, h⟩ := op2_some h
    exact (rBin_ok (hT.ev hv) (hT.ev hu) x y h).op rfl
  case unOp op t x =>
    obtain ⟨v, hv, h⟩ := op1_some h
    exact (rUn_ok (hT.ev hv) h).op rfl
  case convert s d x =>
    obtain ⟨v, hv, h⟩ := op1_some h
    exact (rConv_ok hH (hT.ev hv) h).op rfl
  case makeInterface t x =>
    obtain ⟨v, hv, h⟩ := op1_some h
    unfold opMkI at h
    split at h <;> try (cases h; done)
    rename_i d hn hu
    injection h with h; subst h
    refine (ROk.const (s := Instr.makeInterface t (a.eval x)) (.iface t (hT.ev hv)) fun w1 => ?_).op rfl
    rw [Instr.makeInterface, Sem.run_bind, run_underlying hu w1, Result.andThen_ok]
    cases d <;> first | rfl | exact absurd rfl (hn _)
  case makeFunc fn fs gs =>
    unfold opFunc at h
    split at h <;> try (cases h; done)
    split at h <;> try (cases h; done)
    rename_i l hl
    split at h <;> try (cases h; done)
    rename_i k hk
    injection h with h; subst h
    obtain ⟨fs⟩ := fs
    obtain ⟨gs⟩ := gs
    have h1 := hT.evL hl
    have h2 := hT.evL hk
    refine ⟨_, .func _ _ _ _ _ h1.1 h2.1 h1.2 h2.2, fun w1 _ => ?_⟩
    simp [execOp, Instr.makeFunc]
  case slice t x lo hi mx =>
    unfold opSlice at h
    split at h <;> try (cases h; done)
    rename_i v hv
    split at h <;> try (cases h; done)
    rename_i l hl
    split at h <;> try (cases h; done)
    rename_i hh hhh
    split at h <;> try (cases h; done)
    rename_i m hm
    exact (rSlice_ok (hT.ev hv) (hT.evO hl) (hT.evO hhh) (hT.evO hm) h).op rfl
  case fieldAddr t x f =>
    obtain ⟨v, hv, h⟩ := op1_some h
    exact (rFieldA_ok (hT.ev hv) h).op rfl
  case field t x f =>
    obtain ⟨v, hv, h⟩ := op1_some h
    exact (rField_ok (hT.ev hv) h).op rfl
  case indexAddr t x i =>
    obtain ⟨v, u, hv, hu, h⟩ := op2_some h
    exact (rIndexA_ok (hT.ev hv) (hT.ev hu) h).op rfl
  case index t x i =>
    obtain ⟨v, u, hv, hu, h⟩ := op2_some h
    exact (rIndex_ok (hT.ev hv) (hT.ev hu) h).op rfl
  case extract x i =>
    obtain ⟨v, hv, h⟩ := op1_some h
    exact (rExtract_ok (hT.ev hv) h).op rfl
  case build t ps =>
    unfold opBuild at h
    split at h <;> try (cases h; done)
    rename_i l hl
    obtain ⟨ps⟩ := ps
    refine (rBuild_ok (hT.evP hl) h).op ?_
    simp [execOp]
  case call c =>
    obtain ⟨callee, ⟨args⟩, ⟨ts⟩⟩ := c
    unfold opCall at h
    split at h <;> try (cases h; done)
    rename_i b hb
    simp only at hb
    subst hb
    unfold opBuiltin at h
    split at h <;> try (cases h; done)
    · split at h <;> try (cases h; done)
      rename_i x hx
      split at h <;> try (cases h; done)
      rename_i t ht
      simp only at hx ht
      subst hx; subst ht
      obtain ⟨v, hv, h⟩ := op1_some h
      refine (rLen_ok (ty := ty) (hT.ev hv) h).op' fun w1 => ?_
      simp [execOp, resolve, invoke, builtin]
    · split at h <;> try (cases h; done)
      rename_i x hx
      split at h <;> try (cases h; done)
      rename_i t ht
      simp only at hx ht
      subst hx; subst ht
      obtain ⟨v, hv, h⟩ := op1_some h
      refine (rCap_ok (ty := ty) (hT.ev hv) h).op' fun w1 => ?_
      simp [execOp, resolve, invoke, builtin]
    · split at h <;> try (cases h; done)
      rename_i x y hx
      simp only at hx
      subst hx
      obtain ⟨v, u, hv, hu, h⟩ := op2_some h
      refine (rMin_ok (ty := ty) (ts := ⟨ts⟩) (hT.ev hv) (hT.ev hu) h).op' fun w1 => ?_
      simp [execOp, resolve, invoke, builtin]
    · split at h <;> try (cases h; done)
      rename_i x y hx
      simp only at hx
      subst hx
      obtain ⟨v, u, hv, hu, h⟩ := op2_some h
      refine (rMax_ok (ty := ty) (ts := ⟨ts⟩) (hT.ev hv) (hT.ev hu) h).op' fun w1 => ?_
      simp [execOp, resolve, invoke, builtin]
    · split at h <;> try (cases h; done)
      rename_i x hx
      simp only at hx
      subst hx
      obtain ⟨v, hv, h⟩ := op1_some h
      refine (rSData_ok (ty := ty) (ts := ⟨ts⟩) (hT.ev hv) h).op' fun w1 => ?_
      simp [execOp, resolve, invoke, builtin]
end Go.Ev
namespace Go.Ev
open Go Go.RowKit
set_option linter.unusedVariables false
set_option linter.unusedSimpArgs false

/-! ## a block forgotten; a block taken over -/
noncomputable def Heap.kill (H : Heap) (i : Nat) : Heap := ⟨H.next, H.clock, H.blks.set i .dead⟩
theorem kill_get {H : Heap} {i j : Nat} {b : ABlk} (h : (H.kill i).blks.get j = some b) : (j = i ∧ b = .dead) ∨ (j ≠ i ∧ H.blks.get j = some b) := by
  simp only [Heap.kill, Tr.get_set] at h
  split at h
  · rename_i he; injection h with h; exact .inl ⟨he, h.symm⟩
  · rename_i he; exact .inr ⟨he, h⟩
theorem HR.kill {base : Bas} {φ : Emb} {H : Heap} {w : World} (h : HR base φ H w) {i : Nat} {b0 : ABlk} (h0 : H.blks.get i = some b0) (hro : isRo (some b0) = false) : HR base φ (H.kill i) w ∧ FR φ φ H (H.kill i) w w := by
  have hi : i < H.next := (h.ver i b0 h0).2
  have hgn : ∀ j, isRo ((H.kill i).blks.get j) = isRo (H.blks.get j) := by
    intro j
    simp only [Heap.kill, Tr.get_set]
    split
    · rename_i he; rw [he, h0, hro]; rfl
    · rfl
  refine ⟨⟨h.len, fun j b hj => ?_, fun j k bj bk B c d hj hk lj lk fj fk => ?_, fun j b B c hj fj => ?_, fun j B c hj => by rw [hgn]; exact h.rng j B c hj, h.base, h.gl, h.inv⟩, ⟨rfl, rfl, rfl, Nat.le_refl _, Nat.le_refl _, fun _ _ _ => rfl, fun j B c fj => .inl (List.getElem?_eq_some_iff.1 fj).1, fun _ _ _ _ _ _ _ _ => rfl, fun j b hj hb hl => ?_, fun j hj => by rw [hgn]; exact hj⟩⟩
  · rcases kill_get hj with ⟨rfl, rfl⟩ | ⟨_, hj⟩
    · exact ⟨Nat.zero_le _, hi⟩
    · exact h.ver j b hj
  · rcases kill_get hj with ⟨_, rfl⟩ | ⟨_, hj⟩
    · exact lj.elim
    · rcases kill_get hk with ⟨_, rfl⟩ | ⟨_, hk⟩
      · exact lk.elim
      · exact h.sep j k bj bk B c d hj hk lj lk fj fk
  · rcases kill_get hj with ⟨_, rfl⟩ | ⟨_, hj⟩
    · trivial
    · exact h.blk j b B c hj fj
  · rcases kill_get hb with ⟨_, rfl⟩ | ⟨_, hb⟩
    · exact hl.elim
    · exact ⟨b, hb, hl, Nat.le_refl _⟩
theorem HR.take {base : Bas} {φ : Emb} {H : Heap} {w w' : World} (h : HR base φ H w) (b : ABlk) (B c : Nat) (hfree : ∀ (j : Nat) (bj : ABlk) (d : Nat), H.blks.get j = some bj → bj.live → φ[j]? ≠ some (B, d)) (hin : ∃ (j d : Nat), φ[j]? = some (B, d))
    (hv : b.ver ≤ H.clock) (hw : w.grownBy w' (some B)) (hs : w'.heap.size = w.heap.size) (hb : BR φ c b w'.heap[B]?) :
    Ext φ (φ ++ [(B, c)]) ∧ HR base (φ ++ [(B, c)]) (H.push b) w' ∧ FR φ (φ ++ [(B, c)]) H (H.push b) w w' ∧ (φ ++ [(B, c)])[H.next]? = some (B, c) := by
  obtain ⟨j0, d0, hj0⟩ := hin
  have hx : Ext φ (φ ++ [(B, c)]) := Ext.push φ _
  have hnew : (φ ++ [(B, c)])[H.next]? = some (B, c) := by rw [← h.len]; simp
  have hold : ∀ (i : Nat) (x : Nat × Nat), i ≠ H.next → (φ ++ [(B, c)])[i]? = some x → φ[i]? = some x := by
    intro i x hi hx
    by_cases hlt : i < φ.length
    · rwa [List.getElem?_append_left hlt] at hx
    · have := (List.getElem?_eq_some_iff.1 hx).1
      have hl := h.len
      simp at this
      omega
  have hg : ∀ i b', (H.push b).blks.get i = some b' → (i = H.next ∧ b' = b) ∨ (i ≠ H.next ∧ H.blks.get i = some b') := by
    intro i b' hi
    simp only [Heap.push, Tr.get_set] at hi
    split at hi
    · rename_i he; injection hi with hi; exact .inl ⟨he, hi.symm⟩
    · rename_i he; exact .inr ⟨he, hi⟩
  have hgn : ∀ i, i ≠ H.next → (H.push b).blks.get i = H.blks.get i := fun i hi => by simp only [Heap.push, Tr.get_set, if_neg hi]
  have hoth : ∀ (j : Nat) (b' : ABlk) (B' c' : Nat), H.blks.get j = some b' → b'.live → φ[j]? = some (B', c') → w'.heap[B']? = w.heap[B']? := by
    intro j b' B' c' hb' hl' hp'
    exact hw.block B' (h.rng j B' c' hp').2 (fun e => by injection e with e; subst e; exact hfree j b' c' hb' hl' hp')
  have hBb : base.n ≤ B := by
    refine (h.rng j0 B d0 hj0).1 ?_
    cases hr : isRo (H.blks.get j0)
    · rfl
    · obtain ⟨n, cs, hg⟩ := isRo_inv hr
      exact absurd hj0 (hfree j0 _ d0 hg trivial)
  refine ⟨hx, ⟨by simp [Heap.push, h.len], fun i b' hi => ?_, fun i j bi bj B1 c1 d1 hi hj li lj fi fj => ?_, fun i b' B1 c1 hi fi => ?_, fun i B1 c1 fi => ?_, by rw [hs]; exact h.base, fun g hg => let ⟨c, hc⟩ := h.gl g hg; ⟨c, hx.get hc⟩, h.inv.grown hw h.base (fun k hk => by injection hk with hk; subst hk; exact hBb)⟩, ⟨hw.os, hw.tape, hw.output, hw.size, Nat.le_refl _, fun B1 hB1 hn => ?_, fun i B1 c1 fi => ?_, fun i B1 c1 b' fi hb' hl' _ => ?_, fun i b' hi hb' hl => ?_, fun i hi => ?_⟩, hnew⟩
  · rcases hg i b' hi with ⟨rfl, rfl⟩ | ⟨_, hi⟩
    · exact ⟨hv, Nat.lt_succ_self _⟩
    · exact ⟨(h.ver i b' hi).1, Nat.lt_succ_of_lt (h.ver i b' hi).2⟩
  · rcases hg i bi hi with ⟨e1, e2⟩ | ⟨ni, hi1⟩ <;> rcases hg j bj hj with ⟨e3, e4⟩ | ⟨nj, hj1⟩
    · rw [e1, e3]
    · rw [e1, hnew] at fi; injection fi with fi; injection fi with fB fc; subst fB
      exact absurd (hold j _ nj fj) (hfree j bj d1 hj1 lj)
    · rw [e3, hnew] at fj; injection fj with fj; injection fj with fB fc; subst fB
      exact absurd (hold i _ ni fi) (hfree i bi c1 hi1 li)
    · exact h.sep i j bi bj B1 c1 d1 hi1 hj1 li lj (hold i _ ni fi) (hold j _ nj fj)
  · rcases hg i b' hi with ⟨rfl, rfl⟩ | ⟨ni, hi⟩
    · rw [hnew] at fi; injection fi with fi; injection fi with fB fc
      subst fB; subst fc; exact hb.ext hx
    · have f' := hold i _ ni fi
      by_cases hl' : b'.live
      · rw [hoth i b' B1 c1 hi hl' f']; exact (h.blk i b' B1 c1 hi f').ext hx
      · cases b' <;> simp [ABlk.live] at hl'; trivial
  · by_cases ni : i = H.next
    · subst ni; rw [hnew] at fi; injection fi with fi; injection fi with fB fc
      subst fB; have := h.rng j0 _ d0 hj0
      refine ⟨fun _ => this.1 ?_, by omega⟩
      cases hr : isRo (H.blks.get j0)
      · rfl
      · obtain ⟨n, cs, hg⟩ := isRo_inv hr
        exact absurd hj0 (hfree j0 _ d0 hg trivial)
    · have := h.rng i B1 c1 (hold i _ ni fi); rw [hgn i ni]; exact ⟨this.1, by omega⟩
  · exact hw.block B1 hB1 (fun e => by injection e with e; subst e; exact hn j0 d0 hj0)
  · by_cases ni : i = H.next
    · subst ni; rw [hnew] at fi; injection fi with fi; injection fi with fB fc
      subst fB; exact .inr (.inr ⟨j0, d0, hj0⟩)
    · exact .inl (List.getElem?_eq_some_iff.1 (hold i _ ni fi)).1
  · rcases hg i b' hb' with ⟨rfl, rfl⟩ | ⟨ni, hb'⟩
    · have := (List.getElem?_eq_some_iff.1 fi).1; rw [h.len] at this; omega
    · exact hoth i b' B1 c1 hb' hl' fi
  · rcases hg i b' hb' with ⟨rfl, rfl⟩ | ⟨ni, hb'⟩
    · rw [h.len] at hi; omega
    · exact ⟨b', hb', hl, Nat.le_refl _⟩
  · have hne : i ≠ H.next := fun e => by
      obtain ⟨n, cs, hg⟩ := isRo_inv hi
      have := (h.ver i _ hg).2; omega
    rw [hgn i hne]; exact hi

/-! ## cells stored -/
def Unfz (n : Nat) (fr : Nat × Nat) : Prop := ∀ j, j < n → ¬ (fr.1 ≤ j ∧ (j < fr.2 ∨ fr.2 < fr.1))
theorem run_storeCells_fr {P : Program} (g o : Nat) (t : TypeId) (fr : Nat × Nat) : ∀ (vs : List Value) (i : Nat) (cur : Array Value) (w : World), w.heap[g]? = some (.cells cur t fr) → Unfz cur.size fr → o + i + vs.length ≤ cur.size → (∀ v ∈ vs, v.oneCell' = true) →
    (storeCells ⟨g, o, none⟩ vs i).run P w = .ok () (w.setRow g ⟨segL cur.toList (o + i) vs⟩)
  | [], i, cur, w, hg, _, _, _ => by
    simp only [storeCells, segL, List.append_nil, List.length_nil, Nat.add_zero, List.take_append_drop]
    rw [show (⟨cur.toList⟩ : Array Value) = cur from rfl, setRow_self w g cur t fr hg]
    rfl
  | v :: rest, i, cur, w, hg, hf, hl, h1 => by
    have hi : o + i < cur.size := by simp at hl; omega
    have hcell : w.cell? ⟨g, o + i, none⟩ = some cur[o + i] := by simp [World.cell?, hg, hi]
    have hfro : w.frozen? ⟨g, o + i, none⟩ = false := by
      have := hf (o + i) hi
      obtain ⟨lo, hi'⟩ := fr
      simp only [World.frozen?, hg]
      cases hb : decide (lo ≤ o + i) && decide (o + i < hi')
      · rfl
      · simp at hb; exact absurd ⟨hb.1, .inl hb.2⟩ this
    have hst : (store ((⟨g, o, none⟩ : Addr).add i) v).run P w = .ok () (w.setRow g (cur.setIfInBounds (o + i) v)) := by
      rw [addr_add, run_store P w _ v _ (h1 v (by simp)), hcell]
      simp [hfro, setCell_eq_setRow w g (o + i) cur t fr v hg]
    have ih := run_storeCells_fr (P := P) g o t fr rest (i + 1) (cur.setIfInBounds (o + i) v) (w.setRow g (cur.setIfInBounds (o + i) v)) (setRow_heap w g cur _ t _ hg) (by simp only [Array.size_setIfInBounds]; exact hf) (by simp at hl ⊢; omega) (fun x hx => h1 x (by simp [hx]))
    simp only [storeCells, Sem.run_bind, hst, Result.andThen_ok, ih, setRow_setRow]
    congr 3
    have e := list_seg_step cur.toList (o + i) v rest (by simp at hl ⊢; omega)
    unfold segL
    simpa [Array.toList_setIfInBounds, Nat.add_assoc] using e
theorem setRow_grownBy {w : World} {g : Nat} (cs : Array Value) : w.grownBy (w.setRow g cs) (some g) :=
  ⟨rfl, rfl, rfl, by simp, fun k _ hk => setRow_other w g k _ (fun e => hk (by rw [e]))⟩
/-- Cells put into a trie. -/
noncomputable def putL (cs : Tr Value) (vs : List Value) : Nat → Tr Value :=
  List.rec (motive := fun _ => Tr Value → Nat → Tr Value) (fun cs _ => cs) (fun v _ ih cs o => ih (cs.set o v) (Nat.succ o)) vs cs
theorem putL_get : ∀ (vs : List Value) (cs : Tr Value) (o j : Nat), (putL cs vs o).get j = if o ≤ j ∧ j < o + vs.length then vs[j - o]? else cs.get j
  | [], cs, o, j => by
    show cs.get j = _
    rw [if_neg (by simp only [List.length_nil]; omega)]
  | v :: vs, cs, o, j => by
    show (putL (cs.set o v) vs (o + 1)).get j = _
    rw [putL_get vs (cs.set o v) (o + 1) j, Tr.get_set]
    by_cases h1 : j = o
    · subst h1
      rw [if_neg (by omega), if_pos rfl, if_pos (by simp)]
      simp
    · by_cases h2 : o + 1 ≤ j ∧ j < o + 1 + vs.length
      · rw [if_pos h2, if_pos (by simp; omega)]
        obtain ⟨k, rfl⟩ : ∃ k, j = o + 1 + k := ⟨j - (o + 1), by omega⟩
        rw [show o + 1 + k - (o + 1) = k by omega, show o + 1 + k - o = k + 1 by omega]
        simp
      · rw [if_neg h2, if_neg h1, if_neg (by simp; omega)]
/-- The cells of a row behind a segment that is written. -/
theorem row_seg {φ : Emb} {cs : Tr Value} {n : Nat} {cur : Array Value} (h : ∀ (j : Nat) v, j < n → cs.get j = some v → ∃ v', cur[j]? = some v' ∧ VR φ v v') {vs vs' : List Value} (hv : VRs φ vs vs') {o m : Nat} (hm : o + vs'.length ≤ cur.size) (hmn : m ≤ n ∨ m ≤ o + vs.length) (hon : o ≤ n ∨ m ≤ n) :
    ∀ (j : Nat) v, j < m → (putL cs vs o).get j = some v → ∃ v', (⟨segL cur.toList o vs'⟩ : Array Value)[j]? = some v' ∧ VR φ v v' := by
  intro j v hj hg
  rw [putL_get] at hg
  have hget : (⟨segL cur.toList o vs'⟩ : Array Value)[j]? = (segL cur.toList o vs')[j]? := by simp
  rw [hget, segL_get (by simpa using hm)]
  have hlen := hv.1
  split at hg
  · rename_i hc
    obtain ⟨v', h1, h2⟩ := hv.get hg
    rw [if_neg (by omega), if_pos (by omega)]
    exact ⟨v', h1, h2⟩
  · rename_i hc
    have hjn : j < n := by omega
    obtain ⟨v', h1, h2⟩ := h j v hjn hg
    refine ⟨v', ?_, h2⟩
    have h1' : cur.toList[j]? = some v' := by simpa using h1
    split
    · exact h1'
    · rw [if_neg (by omega)]; exact h1'
end Go.Ev
namespace Go.Ev
open Go Go.RowKit
set_option linter.unusedVariables false
set_option linter.unusedSimpArgs false

/-- A writing: behind it the heap is H', and it gives v. -/
def WOk (P : Program) (base : Bas) (φ : Emb) (H : Heap) (w : World) (s : Sem Value) (v : Value) (H' : Heap) : Prop :=
  ∃ φ' v' w', Ext φ φ' ∧ HR base φ' H' w' ∧ FR φ φ' H H' w w' ∧ VR φ' v v' ∧ s.run P w = .ok v' w'

theorem BR.fixed {φ : Emb} {ver e c n : Nat} {l l' : List Value} (h : VRs φ l l') (hn : n = l.length) : BR φ c (.row ver e 0 n (putL .nil l 0)) (some (.cells ⟨l'⟩ e)) := by
  refine ⟨⟨l'⟩, (0, 0), rfl, fun j _ => by omega, by simp [hn, h.1], fun j v hj hg => ?_⟩
  rw [putL_get] at hg
  rw [if_pos (by omega)] at hg
  obtain ⟨v', h1, h2⟩ := h.get hg
  exact ⟨v', by simpa using h1, h2⟩
/-- A new block whose cells are l. -/
noncomputable def newB (H : Heap) (e : TypeId) (l : List Value) : Value × Heap := (.pointer (some ⟨H.next, 0, none⟩), H.push (.row H.clock e 0 (lenV l) (putL .nil l 0)))
theorem newB_ok {P : Program} {base : Bas} {φ : Emb} {H : Heap} {w : World} (hH : HR base φ H w) {e : TypeId} {l l' : List Value} (hl : VRs φ l l') :
    WOk P base φ H w (do pure (.pointer (some (← newRow e ⟨l'⟩)))) (newB H e l).1 (newB H e l).2 := by
  obtain ⟨h1, h2, h3, h4⟩ := hH.push (.row H.clock e 0 (lenV l) (putL .nil l 0)) (.cells ⟨l'⟩ e) 0 (Nat.le_refl _) (BR.fixed hl (lenV_eq l))
  exact ⟨_, _, _, h1, h2, h3, .ptr h4, rfl⟩
/-! ## a new variable -/
def zeroLay (P : Program) (t : TypeId) : Option (List Value) :=
  match P.info? t with
  | some i => match i.zero with | some z => some z.cells.toList | none => none
  | none => none
noncomputable def wAlloc (P : Program) (H : Heap) (e : TypeId) : Option (Value × Heap) :=
  match zeroLay P e with
  | some l => match plainL l with | true => some (newB H e l) | false => none
  | none => none
theorem wAlloc_ok {P : Program} {base : Bas} {φ : Emb} {H : Heap} {w : World} (hH : HR base φ H w) {e : TypeId} {r : Value × Heap} (h : wAlloc P H e = some r) : WOk P base φ H w (Instr.alloc e true (.tuple #[])) r.1 r.2 := by
  unfold wAlloc at h
  split at h <;> try (cases h; done)
  rename_i l hl
  split at h <;> try (cases h; done)
  rename_i hp
  injection h with h; subst h
  unfold zeroLay at hl
  split at hl <;> try (cases hl; done)
  rename_i i hi
  split at hl <;> try (cases hl; done)
  rename_i z hz
  injection hl with hl; subst hl
  obtain ⟨φ', v', w', h1, h2, h3, h4, h5⟩ := newB_ok (P := P) hH (e := e) (VRs.plain (φ := φ) hp)
  refine ⟨φ', v', w', h1, h2, h3, h4, ?_⟩
  rw [← h5]
  simp [Instr.alloc, zeroValue, typeInfo, hi, hz, newVar]
noncomputable def wBox (H : Heap) (e : TypeId) (v : Value) : Option (Value × Heap) := some (newB H e (cellsOf v))
theorem wBox_ok {P : Program} {base : Bas} {φ : Emb} {H : Heap} {w : World} (hH : HR base φ H w) {e : TypeId} {v v' : Value} (hv : VR φ v v') {r : Value × Heap} (h : wBox H e v = some r) : WOk P base φ H w (Instr.box e v') r.1 r.2 := by
  injection h with h; subst h
  obtain ⟨φ', u, w', h1, h2, h3, h4, h5⟩ := newB_ok (P := P) hH (e := e) hv.cells
  refine ⟨φ', u, w', h1, h2, h3, h4, ?_⟩
  rw [← h5]
  simp only [Instr.box, newVar]
  rw [show (⟨cellsOf v'⟩ : Array Value) = v'.cells by rw [← cellsOf_eq]]
/-! ## a row that is written out -/
def elLay (P : Program) (t : TypeId) : Option (TypeId × Nat × Nat × List Value) :=
  match P.underlying t with
  | some (.slice e) => match P.info? e with
    | some i => match i.zero with | some z => some (e, i.size, i.bytes, z.cells.toList) | none => none
    | none => none
  | _ => none
theorem elLay_spec {P : Program} {t e sz by_ : Nat} {zl : List Value} (h : elLay P t = some (e, sz, by_, zl)) : ∃ i z, P.underlying t = some (.slice e) ∧ P.info? e = some i ∧ i.zero = some z ∧ i.size = sz ∧ i.bytes = by_ ∧ z.cells = ⟨zl⟩ := by
  unfold elLay at h
  split at h <;> try (cases h; done)
  rename_i e' hu
  split at h <;> try (cases h; done)
  rename_i i hi
  split at h <;> try (cases h; done)
  rename_i z hz
  injection h with h; injection h with h1 h; injection h with h2 h; injection h with h3 h4
  subst h1; subst h2; subst h3; subst h4
  exact ⟨i, z, hu, hi, hz, rfl, rfl, rfl⟩
noncomputable def repL (z : List Value) (n : Nat) : List Value := Nat.rec (motive := fun _ => List Value) [] (fun _ ih => z ++ ih) n
theorem repL_length (z : List Value) : ∀ n, (repL z n).length = n * z.length
  | 0 => by show ([] : List Value).length = _; simp
  | n + 1 => by
    show (z ++ repL z n).length = _
    rw [List.length_append, repL_length z n, Nat.succ_mul]; omega
theorem repL_get (z : List Value) (hz : 0 < z.length) : ∀ (n j : Nat), j < n * z.length → (repL z n)[j]? = z[j % z.length]?
  | 0, j, h => by simp at h
  | n + 1, j, h => by
    show (z ++ repL z n)[j]? = _
    by_cases hj : j < z.length
    · rw [List.getElem?_append_left hj, Nat.mod_eq_of_lt hj]
    · rw [List.getElem?_append_right (by omega), repL_get z hz n (j - z.length) (by rw [Nat.succ_mul] at h; omega)]
      rw [← Nat.mod_eq_sub_mod (by omega)]
theorem madeCells_eq (z : List Value) (n sz : Nat) (hs : z.length = sz) : (madeCells ⟨z⟩ (n * sz)) = ⟨repL z n⟩ := by
  apply Array.ext'
  apply List.ext_getElem?
  intro j
  by_cases h0 : z.length = 0
  · have : n * sz = 0 := by rw [← hs, h0]; simp
    rw [this]
    have h2 : (repL z n).length = 0 := by rw [repL_length, h0]; simp
    rw [List.length_eq_zero_iff.1 h2]
    simp [madeCells]
  · by_cases hj : j < n * sz
    · rw [repL_get z (by omega) n j (by rw [hs]; exact hj)]
      have hm : j % z.length < z.length := Nat.mod_lt _ (by omega)
      simp only [madeCells, Array.toList_map, Array.toList_range, List.getElem?_map, List.getElem?_range hj, Option.map_some]
      rw [List.getElem?_eq_getElem hm]
      congr 1
      have : (⟨z⟩ : Array Value).size = z.length := rfl
      simp [this, hm]
    · rw [List.getElem?_eq_none (by simp [madeCells]; omega), List.getElem?_eq_none (by simp only [repL_length, hs]; omega)]
theorem plainL_append : ∀ (a b : List Value), plainL a = true → plainL b = true → plainL (a ++ b) = true
  | [], b, _, h => h
  | v :: a, b, h, k => by
    rw [plainL_cons, Bool.and_eq_true] at h
    rw [List.cons_append, plainL_cons, h.1, plainL_append a b h.2 k]; rfl
theorem plainL_rep (z : List Value) (h : plainL z = true) : ∀ n, plainL (repL z n) = true
  | 0 => rfl
  | n + 1 => plainL_append z (repL z n) h (plainL_rep z h n)
noncomputable def wBuildS (P : Program) (H : Heap) (t : TypeId) (n : Nat) (ps : List (Nat × Value)) : Option (Value × Heap) :=
  match elLay P t with
  | some (e, sz, _, z) => match and (Nat.beq (lenV z) sz) (and (plainL z) (and (Nat.ble (Nat.mul n sz) 100000) (Nat.ble n 100000))) with
    | true => match fillC (fun i => some (Nat.mul i sz, sz)) ps (repL z n) with
      | some l => some (.slice (some ⟨H.next, 0, none⟩) n n, (newB H e l).2)
      | none => none
    | false => none
  | none => none
theorem wBuildS_ok {P : Program} {base : Bas} {φ : Emb} {H : Heap} {w : World} (hH : HR base φ H w) {t : TypeId} {n : Nat} {ps ps' : List (Nat × Value)} (hp : PRs φ ps ps') {r : Value × Heap} (h : wBuildS P H t n ps = some r) : WOk P base φ H w (Instr.buildSlice t n ⟨ps'⟩) r.1 r.2 := by
  unfold wBuildS at h
  split at h <;> try (cases h; done)
  rename_i e sz by_ z hl
  split at h <;> try (cases h; done)
  rename_i hc
  split at h <;> try (cases h; done)
  rename_i l hfl
  injection h with h; subst h
  simp only [Bool.and_eq_true] at hc
  have c1 := Nat.eq_of_beq_eq_true hc.1
  have c3 : n * sz ≤ 100000 := Nat.le_of_ble_eq_true hc.2.2.1
  have c4 : n ≤ 100000 := Nat.le_of_ble_eq_true hc.2.2.2
  rw [lenV_eq] at c1
  obtain ⟨i, zv, hu, hi, hz, rfl, rfl, hzc⟩ := elLay_spec hl
  obtain ⟨l', h1, h2⟩ := fillC_ok hfl hp (VRs.plain (plainL_rep z hc.2.1 n))
  obtain ⟨k1, k2, k3, k4⟩ := hH.push (.row H.clock e 0 (lenV l) (putL .nil l 0)) (.cells ⟨l'⟩ e) 0 (Nat.le_refl _) (BR.fixed h2 (lenV_eq l))
  refine ⟨_, _, _, k1, k2, k3, .sl n n (by unfold unk; omega) k4, ?_⟩
  have hm := madeCells_eq z n i.size c1
  have h24 : ¬ (16777216 < n * i.size) := by omega
  have hrow : ∀ w1 : World, (newRow e ⟨l'⟩).run P w1 = .ok ⟨w1.heap.size, 0, none⟩ (w1.alloc (.cells ⟨l'⟩ e)) := fun w1 => rfl
  by_cases h0 : n * i.size = 0
  · have he : (repL z n) = [] := List.eq_nil_of_length_eq_zero (by rw [repL_length, c1]; exact h0)
    have h1' : Instr.fill (fun k => some (k * i.size, i.size)) (#[] : Array Value) ps' = some ⟨l'⟩ := by rw [he] at h1; exact h1
    simp [Instr.buildSlice, run_underlying hu, run_sizeOf' w hi, h0, h24, Array.range_zero', h1', hrow]
  · have hz' : (zeroValue e).run P w = .ok zv w := by simp [zeroValue, typeInfo, hi, hz]
    have hm' : Array.map (fun x => zv.cells[x % zv.cells.size]!) (Array.range (n * i.size)) = ⟨repL z n⟩ := by rw [hzc]; exact hm
    simp only [Instr.buildSlice, Sem.run_bind, run_underlying hu, Result.andThen_ok, run_sizeOf' w hi, h0, if_false, hz', Sem.run_pure]
    rw [if_neg (by simpa using h24)]
    have h1' : Instr.fill (fun k => some (k * i.size, i.size)) ⟨repL z n⟩ ps' = some ⟨l'⟩ := h1
    simp only [Sem.run_bind, hz', Result.andThen_ok, Sem.run_pure, hm', h1', hrow]
/-! ## a row made -/
noncomputable def wMakeS (P : Program) (H : Heap) (t : TypeId) (l c : Value) : Option (Value × Heap) :=
  match l with
  | .int _ (.ofNat n) => match c with
    | .int _ (.ofNat m) => match elLay P t with
      | some (e, sz, by_, z) => match and (Nat.beq (lenV z) sz) (and (plainL z) (and (and (Nat.ble (Nat.mul by_ m) 100000000) (Nat.ble n m)) (Nat.ble m 100000))) with
        | true => some (.slice (some ⟨H.next, 0, none⟩) n m, (newB H e (repL z m)).2)
        | false => none
      | none => none
    | _ => none
  | _ => none
theorem wMakeS_ok {P : Program} {base : Bas} {φ : Emb} {H : Heap} {w : World} (hH : HR base φ H w) {t : TypeId} {l c l' c' : Value} (hl : VR φ l l') (hcv : VR φ c c') {r : Value × Heap} (h : wMakeS P H t l c = some r) : WOk P base φ H w (Instr.makeSlice t l' c') r.1 r.2 := by
  unfold wMakeS at h
  split at h <;> try (cases h; done)
  rename_i kl n
  split at h <;> try (cases h; done)
  rename_i kc m
  split at h <;> try (cases h; done)
  rename_i e sz by_ z hel
  split at h <;> try (cases h; done)
  rename_i hc
  injection h with h; subst h
  simp only [Bool.and_eq_true] at hc
  have c1 := Nat.eq_of_beq_eq_true hc.1
  have c2 : by_ * m ≤ 100000000 := Nat.le_of_ble_eq_true hc.2.2.1.1
  have c3 := Nat.le_of_ble_eq_true hc.2.2.1.2
  have c4 := Nat.le_of_ble_eq_true hc.2.2.2
  rw [lenV_eq] at c1
  obtain ⟨i, zv, hu, hi, hz, rfl, rfl, hzc⟩ := elLay_spec hel
  cases hl; cases hcv
  have hb : (i.bytes : Int) * (m : Int) ≤ 281474976710656 := by
    have : ((i.bytes * m : Nat) : Int) ≤ 281474976710656 := by omega
    rwa [Int.natCast_mul] at this
  have hr := run_make (P := P) w t e i zv hu hi hz kl kc (n : Int) (m : Int) (by omega) (by omega) hb (by omega)
  simp only [Int.toNat_natCast, hzc, madeCells_eq z m i.size c1] at hr
  obtain ⟨k1, k2, k3, k4⟩ := hH.push (.row H.clock e 0 (lenV (repL z m)) (putL .nil (repL z m) 0)) (.cells ⟨repL z m⟩ e) 0 (Nat.le_refl _) (BR.fixed (VRs.plain (plainL_rep z hc.2.1 m)) (lenV_eq _))
  exact ⟨_, _, _, k1, k2, k3, .sl n m (by unfold unk; omega) k4, hr⟩
end Go.Ev
namespace Go.Ev
open Go Go.RowKit
set_option linter.unusedVariables false
set_option linter.unusedSimpArgs false

def one1 : Value → Bool | .agg _ => false | .tuple _ => false | _ => true
noncomputable def oneL (l : List Value) : Bool := List.rec (motive := fun _ => Bool) true (fun v _ ih => and (one1 v) ih) l
theorem oneL_ok {φ : Emb} : ∀ {l l' : List Value}, VRs φ l l' → oneL l = true → ∀ v ∈ l', v.oneCell' = true
  | [], l', h, _ => by rw [h.inv_nil]; simp
  | v :: l, l', h, ho => by
    obtain ⟨v', r, rfl, h1, h2⟩ := h.inv_cons
    have ho' : (one1 v && oneL l) = true := ho
    rw [Bool.and_eq_true] at ho'
    intro u hu
    rcases List.mem_cons.1 hu with rfl | hu
    · cases h1 <;> first | rfl | (simp [one1] at ho')
    · exact oneL_ok h2 ho'.2 u hu
/-- A segment of a row's cells is written. -/
theorem row_put {base : Bas} {φ : Emb} {H : Heap} {w : World} (hH : HR base φ H w) {i B c ver e sz n o : Nat} {cs : Tr Value} (hp : φ[i]? = some (B, c)) (hi : H.blks.get i = some (.row ver e sz n cs)) {vs vs' : List Value} (hv : VRs φ vs vs')
    {cur : Array Value} {fr : Nat × Nat} (hB : w.heap[B]? = some (.cells cur e fr)) (hle : o + vs.length ≤ n) :
    HR base φ (H.put i (fun ver => .row ver e sz n (putL cs vs o))) (w.setRow B ⟨segL cur.toList o vs'⟩) ∧ FR φ φ H (H.put i (fun ver => .row ver e sz n (putL cs vs o))) w (w.setRow B ⟨segL cur.toList o vs'⟩) := by
  obtain ⟨cur2, fr2, h1, h2, h3, h4⟩ := hH.row hp hi
  rw [hB] at h1
  injection h1 with h1; injection h1 with h1 _ h5
  subst h1; subst h5
  have hn : n ≤ cur.size := by
    split at h3
    · omega
    · obtain ⟨h5, h6, h7⟩ := h3; omega
  have hlen := hv.1
  have hfit : o + vs'.length ≤ cur.toList.length := by simp; omega
  refine hH.put i _ (fun ver => .row ver e sz n (putL cs vs o)) B c hi trivial hp (fun _ => rfl) (setRow_grownBy _) (by simp) ⟨_, fr, setRow_heap w B cur _ e fr hB, ?_, ?_, ?_⟩
  · intro j hj
    exact h2 j (by have h9 := segL_length hfit; simp only [List.size_toArray, h9] at hj; simpa using hj)
  · have h9 : (⟨segL cur.toList o vs'⟩ : Array Value).size = cur.size := by simp only [List.size_toArray, segL_length hfit]; simp
    rw [h9]; exact h3
  · exact row_seg h4 hv (by simpa using hfit) (.inl (Nat.le_refl _)) (.inr (Nat.le_refl _))
noncomputable def wStore (P : Program) (H : Heap) (t : TypeId) (ad v : Value) : Option Heap :=
  match ad with
  | .pointer (some ⟨i, o, none⟩) => match H.blks.get i with
    | some (.row _ e sz n cs) => match tyLay P t with
      | some (_, k) => match and (and (Nat.beq (lenV (cellsOf v)) k) (oneL (cellsOf v))) (Nat.ble (Nat.add o k) n) with
        | true => some (H.put i (fun ver => .row ver e sz n (putL cs (cellsOf v) o)))
        | false => none
      | none => none
    | _ => none
  | _ => none
theorem wStore_ok {P : Program} {base : Bas} {φ : Emb} {H H' : Heap} {w : World} (hH : HR base φ H w) {t : TypeId} {ad ad' v v' : Value} (ha : VR φ ad ad') (hv : VR φ v v') (h : wStore P H t ad v = some H') :
    ∃ w', HR base φ H' w' ∧ FR φ φ H H' w w' ∧ (Instr.storeAt t ad' v').run P w = .ok () w' := by
  unfold wStore at h
  split at h <;> try (cases h; done)
  rename_i i o
  split at h <;> try (cases h; done)
  rename_i ver e sz n cs hi
  split at h <;> try (cases h; done)
  rename_i b k ht
  split at h <;> try (cases h; done)
  rename_i hc
  injection h with h; subst h
  simp only [Bool.and_eq_true] at hc
  have c1 := Nat.eq_of_beq_eq_true hc.1.1
  have c2 := Nat.le_of_ble_eq_true hc.2
  rw [lenV_eq] at c1
  cases ha with
  | ptr hp =>
  rename_i B c
  obtain ⟨cur, fr, h1, h2, h3, h4⟩ := hH.row hp hi
  have hn : n ≤ cur.size := by
    split at h3
    · omega
    · obtain ⟨h5, h6, h7⟩ := h3; omega
  have hcl := hv.cells
  have hlen := hcl.1
  have c2' : o + k ≤ n := c2
  obtain ⟨k1, k2⟩ := row_put hH hp hi hcl h1 (by omega : o + (cellsOf v).length ≤ n)
  refine ⟨_, k1, k2, ?_⟩
  obtain ⟨d, ii, hd, hii, hb, hsz⟩ := tyLay_spec ht
  have hst := run_storeCells_fr (P := P) B o e fr (cellsOf v') 0 cur w h1 h2 (by omega) (oneL_ok hcl hc.1.2)
  have hcs : v'.cells.size = k := by rw [← Array.length_toList, cellsOf_eq]; omega
  simp only [Instr.storeAt, Instr.sureAddr, Sem.run_bind, Sem.run_pure, Result.andThen_ok, storeVar, run_sizeOf' w hii, hsz, hcs, ne_eq, not_true_eq_false, if_false, cellsOf_eq, hst, Nat.add_zero]

/-! ## what is appended or copied -/
noncomputable def lenX (x : Value) : Option Nat :=
  match x with
  | .string s => some (lenB (bs s))
  | .slice _ l _ => some l
  | _ => none
theorem lenX_ok {P : Program} {φ : Emb} {x x' : Value} (hx : VR φ x x') {n : Nat} (h : lenX x = some n) (w : World) : (Builtin.lenOf x').run P w = .ok n w := by
  unfold lenX at h
  split at h <;> try (cases h; done)
  · injection h with h; subst h; cases hx
    simp [Builtin.lenOf, lenB_eq, bs_size]
  · injection h with h; subst h
    obtain ⟨a', k', rfl, _⟩ := hx.slice_inv
    rfl
/-- The cells of the first m elements of a slice or of a text. -/
noncomputable def newsN (H : Heap) (sz : Nat) (x : Value) (m : Nat) : Option (List Value) :=
  match x with
  | .string s => match Nat.beq sz 1 with | true => some ((takeB m (bs s)).map (fun b => .int .u8 (.ofNat b.toNat))) | false => none
  | .slice a _ _ => match m with
    | 0 => some []
    | _ + 1 => match a with
      | some ⟨i, o, none⟩ => match H.blks.get i with
        | some (.row _ _ _ n cs) => match Nat.ble (Nat.add o (Nat.mul m sz)) n with
          | true => cellsL cs (Nat.mul m sz) o
          | false => none
        | _ => none
      | _ => none
  | _ => none
theorem newsN_ok {P : Program} {base : Bas} {φ : Emb} {H : Heap} {w : World} (hH : HR base φ H w) {sz : Nat} {x x' : Value} (hx : VR φ x x') {n m : Nat} (hn : lenX x = some n) (hm : m ≤ n) {l : List Value} (h : newsN H sz x m = some l) :
    ∃ l', VRs φ l l' ∧ l.length = m * sz ∧ (∀ w1 : World, w1.heap = w.heap → (Builtin.firstCells sz m x').run P w1 = .ok ⟨l'⟩ w1) := by
  unfold newsN at h
  split at h <;> try (cases h; done)
  · rename_i s
    split at h <;> try (cases h; done)
    rename_i h1
    have h1' := Nat.eq_of_beq_eq_true h1
    subst h1'
    injection h with h
    subst h
    simp only [lenX] at hn; injection hn with hn
    rw [lenB_eq] at hn
    cases hx
    refine ⟨(takeB m (bs s)).map (fun b => .int .u8 (.ofNat b.toNat)), ⟨rfl, fun j v v' e1 e2 => ?_⟩, by rw [takeB_eq]; simp; omega, fun w1 _ => ?_⟩
    · rw [e1] at e2; injection e2 with e2; subst e2
      rw [List.getElem?_map] at e1
      cases hb : (takeB m (bs s))[j]? with
      | none => rw [hb] at e1; cases e1
      | some b => rw [hb] at e1; injection e1 with e1; subst e1; exact .int _ _
    · simp only [Builtin.firstCells, takeB_eq]
      rw [extract_bs _ _ _ (Nat.zero_le _)]
      simp
  · rename_i a l0 k
    split at h
    · injection h with h
      subst h
      obtain ⟨a', k', rfl, _⟩ := hx.slice_inv
      refine ⟨[], VRs.nil φ, by simp, fun w1 _ => ?_⟩
      cases a' with
      | none => rfl
      | some a' =>
        show (loadCells a' (0 * sz)).run P w1 = _
        rw [Nat.zero_mul]; rfl
    · rename_i m1
      split at h <;> try (cases h; done)
      rename_i i o
      split at h <;> try (cases h; done)
      rename_i ver e sz' n' cs hi
      split at h <;> try (cases h; done)
      rename_i hle
      have hle' := Nat.le_of_ble_eq_true hle
      have main : ∀ (B c0 k' : Nat), φ[i]? = some (B, c0) → ∃ l', VRs φ l l' ∧ l.length = (m1 + 1) * sz ∧
          (∀ w1 : World, w1.heap = w.heap → (Builtin.firstCells sz (m1 + 1) (.slice (some ⟨B, o, none⟩) l0 k')).run P w1 = .ok ⟨l'⟩ w1) := by
        intro B c0 k' hp
        obtain ⟨cur, fr, h1, h2, h3, h4⟩ := hH.row hp hi
        obtain ⟨l', hv, hlen, hcs⟩ := cells_read h4 h hle'
        refine ⟨l', hv, (cellsL_spec cs _ o l h).1, fun w1 hw1 => ?_⟩
        have hB : w1.heap[B]? = some (.cells cur e fr) := by rw [hw1]; exact h1
        have := run_loadCells_list (P := P) w1 ⟨B, o, none⟩ l' (fun j u hu => by rw [addr_add, cell_in hB]; exact hcs j u hu)
        rw [hlen] at this
        exact this
      cases hx with
      | sl _ _ hk hp => exact main _ _ _ hp
      | slG _ hp hl => exact main _ _ _ hp
      | slO _ c' hp hl ho => exact main _ _ _ hp
      | slE _ _ _ => simp only [lenX] at hn; injection hn with hn; omega
/-! ## copy -/
noncomputable def copyGo (H : Heap) (sz : Nat) (x : Value) (a : Option Addr) (m : Nat) : Option (Value × Heap) :=
  match m with
  | 0 => some (.int .i64 (.ofNat 0), H)
  | m + 1 => match a with
    | some ⟨i, o, none⟩ => match newsN H sz x (Nat.succ m) with
      | some l => match H.blks.get i with
        | some (.row _ e' sz' k cs) => match and (Nat.ble (Nat.add o (lenV l)) k) (oneL l) with
          | true => some (.int .i64 (.ofNat (Nat.succ m)), H.put i (fun ver => .row ver e' sz' k (putL cs l o)))
          | false => none
        | _ => none
      | none => none
    | _ => none
noncomputable def wCopy (P : Program) (H : Heap) (t : TypeId) (d x : Value) : Option (Value × Heap) :=
  match elLay P t with
  | some (_, sz, _, _) => match d with
    | .slice a dl _ => match lenX x with
      | some n => copyGo H sz x a (match Nat.ble n dl with | true => n | false => dl)
      | none => none
    | _ => none
  | none => none
theorem wCopy_ok {P : Program} {base : Bas} {φ : Emb} {H : Heap} {w : World} (hH : HR base φ H w) {t u ty : TypeId} {d d' x x' : Value} (hd : VR φ d d') (hx : VR φ x x') {r : Value × Heap} (h : wCopy P H t d x = some r) : WOk P base φ H w (Builtin.copy_ #[t, u] ty #[d', x']) r.1 r.2 := by
  unfold wCopy at h
  split at h <;> try (cases h; done)
  rename_i e sz by_ zl hel
  split at h <;> try (cases h; done)
  rename_i a dl kd
  split at h <;> try (cases h; done)
  rename_i n hn
  obtain ⟨ii, zv, hu, hi, hz, rfl, rfl, hzc⟩ := elLay_spec hel
  have hmin : (match Nat.ble n dl with | true => n | false => dl) = Nat.min n dl := by
    split
    · rename_i hb; have := Nat.le_of_ble_eq_true hb; exact (Nat.min_eq_left this).symm
    · rename_i hb
      have : ¬ n ≤ dl := fun hle => by rw [Nat.ble_eq_true_of_le hle] at hb; cases hb
      exact (Nat.min_eq_right (by omega)).symm
  rw [hmin] at h
  unfold copyGo at h
  obtain ⟨a', k', rfl, _⟩ := hd.slice_inv
  have hlen := lenX_ok (P := P) hx hn
  split at h
  · rename_i hm
    injection h with h; subst h
    have hz : (Builtin.firstCells ii.size 0 x').run P w = .ok #[] w := by
      cases x <;> simp [lenX] at hn
      · cases hx
        simp [Builtin.firstCells]
      · obtain ⟨a2, k2, rfl, _⟩ := hx.slice_inv
        cases a2 with
        | none => rfl
        | some a2 =>
          show (loadCells a2 (0 * ii.size)).run P w = _
          rw [Nat.zero_mul]; rfl
    refine ⟨φ, _, w, Ext.refl φ, hH, FR.refl φ H w, .int _ _, ?_⟩
    cases a' with
    | none => simp [Builtin.copy_, run_underlying hu, hlen, hm, run_sizeOf' w hi, hz, goInt]
    | some a' => simp [Builtin.copy_, run_underlying hu, hlen, hm, run_sizeOf' w hi, hz, goInt, storeCells]
  · rename_i m hm
    split at h <;> try (cases h; done)
    rename_i i o
    split at h <;> try (cases h; done)
    rename_i l hl
    split at h <;> try (cases h; done)
    rename_i ver e' sz' k cs hib
    split at h <;> try (cases h; done)
    rename_i hc
    injection h with h; subst h
    simp only [Bool.and_eq_true] at hc
    have c1 := Nat.le_of_ble_eq_true hc.1
    have hmn : m.succ ≤ n := by rw [← hm]; exact Nat.min_le_left n dl
    obtain ⟨l', hv, hll, hf⟩ := newsN_ok (P := P) hH hx hn hmn hl
    rw [lenV_eq] at c1
    have c1' : o + l.length ≤ k := c1
    have main : ∀ (B c k'' : Nat), φ[i]? = some (B, c) → WOk P base φ H w (Builtin.copy_ #[t, u] ty #[.slice (some ⟨B, o, none⟩) dl k'', x']) (.int .i64 (.ofNat m.succ)) (H.put i (fun ver => .row ver e' sz' k (putL cs l o))) := by
      intro B c k'' hp
      obtain ⟨cur, fr, h1, h2, h3, h4⟩ := hH.row hp hib
      have hkc : k ≤ cur.size := by
        split at h3
        · omega
        · obtain ⟨h5, h6, h7⟩ := h3; omega
      obtain ⟨k1, k2⟩ := row_put hH hp hib hv h1 c1'
      have hlv := hv.1
      have hst := run_storeCells_fr (P := P) B o e' fr l' 0 cur w h1 h2 (by omega) (oneL_ok hv hc.2)
      refine ⟨φ, _, _, Ext.refl φ, k1, k2, .int _ _, ?_⟩
      have hf' := hf w rfl
      simp [Builtin.copy_, run_underlying hu, hlen, hm, run_sizeOf' w hi, hf', goInt, hst]
    cases hd with
    | sl _ _ hk hp => exact main _ _ _ hp
    | slG _ hp hl => exact main _ _ _ hp
    | slO _ c' hp hl ho => exact main _ _ _ hp
    | slE _ _ _ =>
      have h9 : m.succ ≤ 0 := by rw [← hm]; exact Nat.min_le_right n 0
      omega
end Go.Ev
