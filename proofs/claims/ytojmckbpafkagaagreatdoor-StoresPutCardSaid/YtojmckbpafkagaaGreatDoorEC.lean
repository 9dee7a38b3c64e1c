import Derived.Test.YtojmckbpafkagaaGreatDoorEB
import Derived.Laws.StructEq
import Derived.Laws.Concat
import Derived.Laws.Slices
import Derived.Laws.Strings
import Derived.Laws.Strings2
import Derived.Laws.Strings3
import Derived.Laws.IdiomStrings
import Derived.Laws.Tables
namespace Go.Ev
open Go Go.RowKit
set_option linter.unusedVariables false
set_option linter.unusedSimpArgs false

/-! ## whole numbers -/
def hiN : IntKind → Nat | .i8 => 128 | .i16 => 32768 | .i32 => 2147483648 | .i64 => 9223372036854775808 | .u8 => 256 | .u16 => 65536 | .u32 => 4294967296 | .u64 => 18446744073709551616
def loN : IntKind → Nat | .i8 => 128 | .i16 => 32768 | .i32 => 2147483648 | .i64 => 9223372036854775808 | _ => 0
def fwrap (k : IntKind) (n : Int) : Int :=
  match n with
  | .ofNat m => match Nat.blt m (hiN k) with | true => .ofNat m | false => k.wrap (.ofNat m)
  | .negSucc m => match Nat.blt m (loN k) with | true => .negSucc m | false => k.wrap (.negSucc m)
theorem fwrap_eq (k : IntKind) (n : Int) : fwrap k n = k.wrap n := by
  unfold fwrap
  split
  · split
    · rename_i h
      rename Nat => m
      have hm : m < hiN k := by have h1 := Nat.le_of_ble_eq_true h; exact h1
      cases k <;> simp only [hiN] at hm <;> simp only [IntKind.wrap, IntKind.bits, IntKind.signed] <;> simp <;> omega
    · rfl
  · split
    · rename_i h
      rename Nat => m
      have hm : m < loN k := by have h1 := Nat.le_of_ble_eq_true h; exact h1
      cases k <;> simp only [loN] at hm <;> simp only [IntKind.wrap, IntKind.bits, IntKind.signed] <;> simp <;> omega
    · rfl
def ltI : Int → Int → Bool
  | .ofNat a, .ofNat b => Nat.blt a b
  | .ofNat _, .negSucc _ => false
  | .negSucc _, .ofNat _ => true
  | .negSucc a, .negSucc b => Nat.blt b a
theorem ltI_eq (a b : Int) : ltI a b = decide (a < b) := by
  cases a <;> cases b <;> simp only [ltI, Nat.blt] <;> rw [Bool.eq_iff_iff] <;> simp <;> omega
def eqI : Int → Int → Bool
  | .ofNat a, .ofNat b => Nat.beq a b
  | .negSucc a, .negSucc b => Nat.beq a b
  | _, _ => false
theorem eqI_eq (a b : Int) : eqI a b = (a == b) := by
  cases a <;> cases b <;> simp only [eqI] <;> rw [Bool.eq_iff_iff] <;> simp [Nat.beq_eq] <;> omega
/-- What an operator makes of two whole numbers of a kind. -/
def intBin (op : BinOp) (k : IntKind) (a b : Int) : Option Value :=
  match op with
  | .add => some (.int k (fwrap k (Int.add a b)))
  | .sub => some (.int k (fwrap k (Int.sub a b)))
  | .mul => some (.int k (fwrap k (Int.mul a b)))
  | .quo => match eqI b (.ofNat 0) with | true => none | false => some (.int k (fwrap k (a.tdiv b)))
  | .rem => match eqI b (.ofNat 0) with | true => none | false => some (.int k (a.tmod b))
  | .eql => some (.bool (eqI a b))
  | .neq => some (.bool (not (eqI a b)))
  | .lss => some (.bool (ltI a b))
  | .leq => some (.bool (not (ltI b a)))
  | .gtr => some (.bool (ltI b a))
  | .geq => some (.bool (not (ltI a b)))
  | _ => none
theorem run_intBin {P : Program} {op : BinOp} {k : IntKind} {a b : Int} {v : Value} (h : intBin op k a b = some v) (t : TypeId) (w : World) : (binOp op t (.int k a) (.int k b)).run P w = .ok v w := by
  have hb0 : eqI b (.ofNat 0) = (b == 0) := eqI_eq b 0
  cases op <;> simp only [intBin] at h
  case quo =>
    rw [hb0] at h
    by_cases hb : b = 0
    · simp [hb] at h
    · have : (b == 0) = false := by simpa using hb
      rw [this] at h; simp at h; subst h
      simp [binOp, Op.intDiv, hb, fwrap_eq]
  case rem =>
    rw [hb0] at h
    by_cases hb : b = 0
    · simp [hb] at h
    · have : (b == 0) = false := by simpa using hb
      rw [this] at h; simp at h; subst h
      simp [binOp, Op.intDiv, hb]
  all_goals first | (cases h; done) | (injection h with h; subst h; simp [binOp, Op.intArith, Op.intCmp, fwrap_eq, eqI_eq, ltI_eq, bne] <;> first | done | rfl | (rw [Bool.eq_iff_iff]; simp))

/-! ## texts -/
noncomputable def eqL (a : List UInt8) : List UInt8 → Bool :=
  List.rec (motive := fun _ => List UInt8 → Bool) (fun b => List.casesOn b true (fun _ _ => false))
    (fun x _ ih b => List.casesOn b false (fun y b' => Bool.casesOn (Nat.beq x.toNat y.toNat) false (ih b'))) a
theorem eqL_eq : ∀ a b : List UInt8, eqL a b = (a == b)
  | [], [] => rfl
  | [], _ :: _ => rfl
  | _ :: _, [] => rfl
  | x :: a, y :: b => by
    have key : ∀ c, Nat.beq x.toNat y.toNat = c → eqL (x :: a) (y :: b) = Bool.casesOn c false (eqL a b) := by intro c hc; subst hc; rfl
    by_cases h : x = y
    · subst h
      rw [key true (by simp [Nat.beq_eq])]
      show eqL a b = _
      rw [eqL_eq a b]; simp
    · rw [key false (by
        cases hb : Nat.beq x.toNat y.toNat
        · rfl
        · exact absurd (UInt8.toNat_inj.1 (Nat.eq_of_beq_eq_true hb)) h)]
      simp [h]
noncomputable def ltL (a : List UInt8) : List UInt8 → Bool :=
  List.rec (motive := fun _ => List UInt8 → Bool) (fun b => List.casesOn b false (fun _ _ => true))
    (fun x _ ih b => List.casesOn b false (fun y b' => Bool.casesOn (Nat.beq x.toNat y.toNat) (Nat.blt x.toNat y.toNat) (ih b'))) a
theorem ltL_eq : ∀ a b : List UInt8, ltL a b = Op.bytesLess a b
  | [], [] => rfl
  | [], _ :: _ => rfl
  | _ :: _, [] => rfl
  | x :: a, y :: b => by
    have key : ∀ c, Nat.beq x.toNat y.toNat = c → ltL (x :: a) (y :: b) = Bool.casesOn c (Nat.blt x.toNat y.toNat) (ltL a b) := by intro c hc; subst hc; rfl
    by_cases h : x = y
    · subst h
      rw [key true (by simp [Nat.beq_eq])]
      show ltL a b = _
      rw [ltL_eq a b]
      simp [Op.bytesLess]
    · rw [key false (by
        cases hb : Nat.beq x.toNat y.toNat
        · rfl
        · exact absurd (UInt8.toNat_inj.1 (Nat.eq_of_beq_eq_true hb)) h)]
      show Nat.blt x.toNat y.toNat = _
      have hxy : (x == y) = false := by simpa using h
      simp only [Op.bytesLess, hxy, Bool.false_and, Bool.or_false]
      rw [Bool.eq_iff_iff]
      simp [Nat.blt, UInt8.lt_iff_toNat_lt]
      try omega
/-- The bytes of a text. -/
def bs (s : ByteArray) : List UInt8 := match s with | ⟨⟨l⟩⟩ => l
theorem bs_eq (s : ByteArray) : s.toList = bs s := by rw [ByteArray.toList_eq]; rfl
noncomputable def strBin (op : BinOp) (x y : ByteArray) : Option Value :=
  match op with
  | .add => match Nat.ble (Nat.add (bs x).length (bs y).length) 1000000 with | true => some (.string ⟨⟨bs x ++ bs y⟩⟩) | false => none
  | .eql => some (.bool (eqL (bs x) (bs y)))
  | .neq => some (.bool (not (eqL (bs x) (bs y))))
  | .lss => some (.bool (ltL (bs x) (bs y)))
  | .leq => some (.bool (or (ltL (bs x) (bs y)) (eqL (bs x) (bs y))))
  | .gtr => some (.bool (not (or (ltL (bs x) (bs y)) (eqL (bs x) (bs y)))))
  | .geq => some (.bool (not (ltL (bs x) (bs y))))
  | _ => none
theorem run_strBin {P : Program} {op : BinOp} {x y : ByteArray} {v : Value} (h : strBin op x y = some v) (t : TypeId) (w : World) : (binOp op t (.string x) (.string y)).run P w = .ok v w := by
  cases op <;> simp only [strBin] at h
  case add =>
    split at h
    · rename_i hl
      injection h with h; subst h
      have hl' : x.size + y.size ≤ 1000000 := by
        have := Nat.le_of_ble_eq_true hl
        obtain ⟨⟨x⟩⟩ := x; obtain ⟨⟨y⟩⟩ := y
        exact this
      show (Op.stringOp .add x y).run P w = _
      rw [run_string_add_sum w x y (by omega)]
      obtain ⟨⟨x⟩⟩ := x; obtain ⟨⟨y⟩⟩ := y
      rw [ByteArray.mk_append_mk]
      rfl
    · cases h
  all_goals first | (cases h; done) | (injection h with h; subst h; simp [binOp, Op.stringOp, bs_eq, eqL_eq, ltL_eq])
end Go.Ev
namespace Go.Ev
open Go Go.RowKit
set_option linter.unusedVariables false
set_option linter.unusedSimpArgs false

/-! ## what is constant -/
def plain1 : Value → Bool
  | .bool _ => true
  | .int _ _ => true
  | .string _ => true
  | .pointer a => a.isNone
  | .slice a _ _ => a.isNone
  | .map a => a.isNone
  | .nilFunc => true
  | .nilIface => true
  | _ => false
noncomputable def plainL (l : List Value) : Bool := List.rec (motive := fun _ => Bool) true (fun v _ ih => and (plain1 v) ih) l
def listOf : Array Value → List Value | ⟨l⟩ => l
noncomputable def plain : Value → Bool
  | .agg cs => plainL (listOf cs)
  | .tuple cs => plainL (listOf cs)
  | v => plain1 v
theorem VR.plain1 {φ : Emb} {v : Value} (h : plain1 v = true) : VR φ v v := by
  cases v with
  | bool b => exact .bool b
  | int k n => exact .int k n
  | string s => exact .str s
  | pointer a => cases a with
    | none => exact .ptrNil
    | some a => simp [Ev.plain1] at h
  | slice a l k => cases a with
    | none => exact .slNil l k
    | some a => simp [Ev.plain1] at h
  | map a => cases a with
    | none => exact .mapNil
    | some a => simp [Ev.plain1] at h
  | nilFunc => exact .nilFunc
  | nilIface => exact .nilIface
  | _ => simp [Ev.plain1] at h
theorem plainL_cons (v : Value) (l : List Value) : plainL (v :: l) = (plain1 v && plainL l) := rfl
theorem VRs.plain {φ : Emb} : ∀ {l : List Value}, plainL l = true → VRs φ l l
  | [], _ => VRs.nil φ
  | v :: l, h => by
    rw [plainL_cons, Bool.and_eq_true] at h
    exact VRs.cons (VR.plain1 h.1) (VRs.plain h.2)
theorem VR.plain {φ : Emb} {v : Value} (h : plain v = true) : VR φ v v := by
  cases v with
  | agg cs => obtain ⟨l⟩ := cs; exact .agg l l rfl (VRs.plain (l := l) h).2
  | tuple cs => obtain ⟨l⟩ := cs; exact .tuple l l rfl (VRs.plain (l := l) h).2
  | _ => exact VR.plain1 h

/-! ## slots -/
noncomputable def ev (tm : Tr Value) (x : Operand) : Option Value :=
  Operand.rec (motive := fun _ => Tr Value → Option Value) (fun t tm => tm.get t) (fun v _ => Bool.rec (motive := fun _ => Option Value) none (some v) (plain v)) (fun g _ => Bool.rec (motive := fun _ => Option Value) none (some (.pointer (some ⟨g, 0, none⟩))) (Nat.blt g gN)) (fun f _ => some (.func (.func f) ⟨[]⟩ ⟨[]⟩)) x tm
structure TR (N : Nat) (φ : Emb) (tm : Tr Value) (a : Act) : Prop where
  size : a.tmps.size = N
  get : ∀ (t : Nat) (v : Value), tm.get t = some v → ∃ v', a.tmps[t]? = some v' ∧ VR φ v v'
  defers : a.defers = []
  gl : ∀ (g : Nat), g < gN → ∃ c, φ[g]? = some (g, c)
theorem TR.ext {N : Nat} {φ φ' : Emb} {tm : Tr Value} {a : Act} (h : TR N φ tm a) (e : Ext φ φ') : TR N φ' tm a :=
  ⟨h.size, fun t v hv => let ⟨v', h1, h2⟩ := h.get t v hv; ⟨v', h1, h2.ext e⟩, h.defers, fun g hg => let ⟨c, hc⟩ := h.gl g hg; ⟨c, e.get hc⟩⟩
theorem TR.ev {N : Nat} {φ : Emb} {tm : Tr Value} {a : Act} (h : TR N φ tm a) {x : Operand} {v : Value} (hx : ev tm x = some v) : VR φ v (a.eval x) := by
  cases x with
  | tmp t =>
    obtain ⟨v', h1, h2⟩ := h.get t v hx
    show VR φ v (a.tmps.getD t undef)
    rw [Array.getD_eq_getD_getElem?, h1]; exact h2
  | const u =>
    have hx' : (Bool.rec (motive := fun _ => Option Value) none (some u) (plain u) : Option Value) = some v := hx
    cases hp : plain u with
    | true => rw [hp] at hx'; injection hx' with hx'; subst hx'; exact VR.plain hp
    | false => rw [hp] at hx'; cases hx'
  | func f =>
    have hx' : some (Value.func (.func f) ⟨[]⟩ ⟨[]⟩) = some v := hx
    injection hx' with hx'; subst hx'
    exact .func f [] [] [] [] rfl rfl (by simp) (by simp)
  | global g =>
    have hx' : (Bool.rec (motive := fun _ => Option Value) none (some (.pointer (some ⟨g, 0, none⟩))) (Nat.blt g gN) : Option Value) = some v := hx
    cases hb : Nat.blt g gN with
    | false => rw [hb] at hx'; cases hx'
    | true =>
    rw [hb] at hx'
    injection hx' with hx'; subst hx'
    obtain ⟨c, hc⟩ := h.gl g (Nat.le_of_ble_eq_true hb)
    exact .ptr hc
noncomputable def putT (N : Nat) (tm : Tr Value) (d : Option Tmp) (v : Value) : Option (Tr Value) :=
  match d with
  | none => some tm
  | some d => match Nat.blt d N with | true => some (tm.set d v) | false => none
theorem TR.put {N : Nat} {φ : Emb} {tm tm' : Tr Value} {a : Act} (h : TR N φ tm a) {d : Option Tmp} {v v' : Value} (hp : putT N tm d v = some tm') (hv : VR φ v v') : TR N φ tm' (a.put d v') := by
  cases d with
  | none => simp only [putT] at hp; injection hp with hp; subst hp; exact h
  | some d =>
    simp only [putT] at hp
    split at hp
    · rename_i hd
      injection hp with hp; subst hp
      have hd' : d < N := Nat.le_of_ble_eq_true hd
      refine ⟨by simp [Act.put, h.size], fun t u hu => ?_, h.defers, h.gl⟩
      rw [Tr.get_set] at hu
      split at hu
      · rename_i he; subst he; injection hu with hu; subst hu
        exact ⟨v', by simp [Act.put, h.size, hd'], hv⟩
      · rename_i hne
        obtain ⟨u', h1, h2⟩ := h.get t u hu
        exact ⟨u', by simp only [Act.put]; rw [Array.getElem?_setIfInBounds_ne (Ne.symm hne)]; exact h1, h2⟩
    · cases hp

/-! ## types -/
def aggD : TypeDesc → Bool | .struct _ => true | .array _ _ => true | _ => false
def tyLay (P : Program) (t : TypeId) : Option (Bool × Nat) :=
  match P.underlying t with
  | some d => match P.info? t with | some i => some (aggD d, i.size) | none => none
  | none => none
theorem tyLay_spec {P : Program} {t : TypeId} {b : Bool} {n : Nat} (h : tyLay P t = some (b, n)) : ∃ d i, P.underlying t = some d ∧ P.info? t = some i ∧ aggD d = b ∧ i.size = n := by
  unfold tyLay at h
  split at h
  · rename_i d hd
    split at h
    · rename_i i hi; injection h with h; injection h with h1 h2; exact ⟨d, i, hd, hi, h1, h2⟩
    · cases h
  · cases h
section
variable {P : Program} (w : World)
theorem run_isAgg' {t : TypeId} {d : TypeDesc} (h : P.underlying t = some d) : (isAgg t).run P w = .ok (aggD d) w := by
  unfold isAgg
  rw [Sem.run_bind, run_underlying h w]
  cases d <;> rfl
theorem run_sizeOf' {t : TypeId} {i : TypeInfo} (h : P.info? t = some i) : (sizeOf t).run P w = .ok i.size w := by
  simp [sizeOf, typeInfo, h]
theorem run_loadVar_agg {t : TypeId} {l : List Value} {ad : Addr} (h : tyLay P t = some (true, l.length)) (hc : ∀ (j : Nat) u, l[j]? = some u → w.cell? (ad.add j) = some u) :
    (loadVar t ad).run P w = .ok (.agg ⟨l⟩) w := by
  obtain ⟨d, i, hd, hi, ha, hs⟩ := tyLay_spec h
  have hl := run_loadCells_list (P := P) w ad l hc
  simp only [loadVar, Sem.run_bind, run_isAgg' w hd, ha, Result.andThen_ok, if_true, run_sizeOf' w hi, hs, hl]
  rfl
theorem run_loadVar_one {t : TypeId} {n : Nat} {u : Value} {ad : Addr} (h : tyLay P t = some (false, n)) (hc : w.cell? ad = some u) : (loadVar t ad).run P w = .ok u w := by
  obtain ⟨d, i, hd, hi, ha, hs⟩ := tyLay_spec h
  simp only [loadVar, Sem.run_bind, run_isAgg' w hd, ha, Result.andThen_ok, Bool.false_eq_true, if_false]
  simp [load, Sem.run, hc]
end

/-! ## cells of a block -/
noncomputable def cellsL (cs : Tr Value) (n : Nat) : Nat → Option (List Value) :=
  Nat.rec (motive := fun _ => Nat → Option (List Value)) (fun _ => some [])
    (fun _ ih o => match cs.get o with | some v => (match ih (Nat.succ o) with | some l => some (v :: l) | none => none) | none => none) n
theorem cellsL_spec (cs : Tr Value) : ∀ (n o : Nat) (l : List Value), cellsL cs n o = some l → l.length = n ∧ ∀ j v, l[j]? = some v → cs.get (o + j) = some v
  | 0, o, l, h => by
    have : l = [] := by injection h with h; exact h.symm
    subst this; simp
  | n + 1, o, l, h => by
    have h' : (match cs.get o with | some v => (match cellsL cs n (o + 1) with | some l => some (v :: l) | none => none) | none => none) = some l := h
    split at h'
    · rename_i v hv
      split at h'
      · rename_i l' hl'
        injection h' with h'; subst h'
        obtain ⟨h1, h2⟩ := cellsL_spec cs n (o + 1) l' hl'
        refine ⟨by simp [h1], fun j u hu => ?_⟩
        cases j with
        | zero => simp at hu; subst hu; exact hv
        | succ j => have := h2 j u (by simpa using hu); rwa [show o + (j + 1) = o + 1 + j by omega]
      · cases h'
    · cases h'
/-- A reading: what it gives, wherever the block that it looks at lies as it lay. -/
def ROk (P : Program) (φ : Emb) (w : World) (s : Sem Value) (r : Value × Option Nat) : Prop :=
  ∃ v', VR φ r.1 v' ∧ ∀ w1 : World, (∀ i B c, r.2 = some i → φ[i]? = some (B, c) → w1.heap[B]? = w.heap[B]?) → s.run P w1 = .ok v' w1
theorem ROk.const {P : Program} {φ : Emb} {w : World} {s : Sem Value} {v v' : Value} (h : VR φ v v') (hs : ∀ w1, s.run P w1 = .ok v' w1) : ROk P φ w s (v, none) := ⟨v', h, fun w1 _ => hs w1⟩
theorem addr_add (B o j : Nat) : (⟨B, o, none⟩ : Addr).add j = ⟨B, o + j, none⟩ := by unfold Addr.add; split <;> simp_all
theorem cell_in {w : World} {B j : Nat} {cur : Array Value} {e : TypeId} {fr : Nat × Nat} (h : w.heap[B]? = some (.cells cur e fr)) : w.cell? ⟨B, j, none⟩ = cur[j]? := by simp [World.cell?, h]
/-- The cells of a row, read at once. -/
theorem HR.row {base : Bas} {φ : Emb} {H : Heap} {w : World} (h : HR base φ H w) {i B c : Nat} (hp : φ[i]? = some (B, c)) {ver e sz n : Nat} {cs : Tr Value} (hi : H.blks.get i = some (.row ver e sz n cs)) :
    ∃ (cur : Array Value) (fr : Nat × Nat), w.heap[B]? = some (.cells cur e fr) ∧ (∀ j, j < cur.size → ¬ (fr.1 ≤ j ∧ (j < fr.2 ∨ fr.2 < fr.1))) ∧ (if sz = 0 then cur.size = n else cur.size = c * sz ∧ c ≤ maxLen ∧ n ≤ c * sz) ∧
      ∀ (j : Nat) v, j < n → cs.get j = some v → ∃ v', cur[j]? = some v' ∧ VR φ v v' := h.blk i _ B c hi hp
theorem cells_read {φ : Emb} {cs : Tr Value} {n : Nat} {cur : Array Value} (h : ∀ (j : Nat) v, j < n → cs.get j = some v → ∃ v', cur[j]? = some v' ∧ VR φ v v') {o m : Nat} {l : List Value} (hl : cellsL cs m o = some l) (hm : o + m ≤ n) :
    ∃ l' : List Value, VRs φ l l' ∧ l'.length = m ∧ ∀ (j : Nat) u, l'[j]? = some u → cur[o + j]? = some u := by
  obtain ⟨h1, h2⟩ := cellsL_spec cs m o l hl
  refine ⟨(List.range m).map (fun j => (cur[o + j]?).getD undef), ⟨by simp [h1], fun j v v' hv hv' => ?_⟩, by simp, fun j u hu => ?_⟩
  · have hj : j < m := by rw [← h1]; exact (List.getElem?_eq_some_iff.1 hv).1
    obtain ⟨u, hu, hvu⟩ := h (o + j) v (by omega) (h2 j v hv)
    simp [List.getElem?_map, List.getElem?_range hj, hu] at hv'
    subst hv'; exact hvu
  · have hj : j < m := by
      have := (List.getElem?_eq_some_iff.1 hu).1
      simpa using this
    have hlt : j < l.length := by omega
    obtain ⟨u', hu', _⟩ := h (o + j) l[j] (by omega) (h2 j _ (by simp [hlt]))
    simp [List.getElem?_map, List.getElem?_range hj, hu'] at hu
    subst hu; exact hu'

/-! ## load -/
noncomputable def rLoad (P : Program) (H : Heap) (t : TypeId) (v : Value) : Option (Value × Option Nat) :=
  match v with
  | .pointer (some ⟨i, o, none⟩) => match H.blks.get i with
    | some (.row _ _ _ n cs) => match tyLay P t with
      | some (true, sz) => match Nat.ble (Nat.add o sz) n with
        | true => match cellsL cs sz o with | some l => some (.agg ⟨l⟩, some i) | none => none
        | false => none
      | some (false, _) => match Nat.blt o n with
        | true => match cs.get o with | some v => some (v, some i) | none => none
        | false => none
      | none => none
    | some (.ro n cs) => match tyLay P t with
      | some (true, sz) => match Nat.ble (Nat.add o sz) n with
        | true => match cellsL cs sz o with | some l => some (.agg ⟨l⟩, some i) | none => none
        | false => none
      | some (false, _) => match Nat.blt o n with
        | true => match cs.get o with | some v => some (v, some i) | none => none
        | false => none
      | none => none
    | _ => none
  | _ => none
theorem rLoad_ok {P : Program} {base : Bas} {φ : Emb} {H : Heap} {w : World} (hH : HR base φ H w) {t : TypeId} {v v' : Value} (hv : VR φ v v') {r : Value × Option Nat} (h : rLoad P H t v = some r) : ROk P φ w (Instr.loadAt t v') r := by
  cases hv with
  | ptr hp =>
    rename_i i o B c
    simp only [rLoad] at h
    split at h
    · rename_i ver e sz n cs hi
      obtain ⟨cur, fr, h1, h2, h3, h4⟩ := hH.row hp hi
      split at h
      · rename_i sz' ht
        split at h <;> try (cases h; done)
        rename_i hle
        split at h <;> try (cases h; done)
        rename_i l hl
        injection h with h; subst h
        obtain ⟨l', hv, hlen, hc⟩ := cells_read h4 hl (Nat.le_of_ble_eq_true hle)
        refine ⟨.agg ⟨l'⟩, .agg l l' hv.1 hv.2, fun w1 hw1 => ?_⟩
        have hB : w1.heap[B]? = some (.cells cur e fr) := by rw [hw1 i B c rfl hp]; exact h1
        show (loadVar t ⟨B, o, none⟩).run P w1 = _
        exact run_loadVar_agg w1 (by rw [hlen]; exact ht) (fun j u hu => by rw [addr_add, cell_in hB]; exact hc j u hu)
      · rename_i sz' ht
        split at h <;> try (cases h; done)
        rename_i hlt
        split at h <;> try (cases h; done)
        rename_i v hv
        injection h with h; subst h
        obtain ⟨v', h5, h6⟩ := h4 o v (Nat.le_of_ble_eq_true hlt) hv
        refine ⟨v', h6, fun w1 hw1 => ?_⟩
        have hB : w1.heap[B]? = some (.cells cur e fr) := by rw [hw1 i B c rfl hp]; exact h1
        show (loadVar t ⟨B, o, none⟩).run P w1 = _
        exact run_loadVar_one w1 ht (by rw [cell_in hB]; exact h5)
      · cases h
    · rename_i n cs hi
      rcases hH.blk i _ B c hi hp with h0 | ⟨cur, e, fr, h1, h4⟩
      · subst h0
        split at h
        · rename_i sz' ht
          split at h <;> try (cases h; done)
          rename_i hle
          have hz : sz' = 0 := by have := Nat.le_of_ble_eq_true hle; simp at this; omega
          subst hz
          split at h <;> try (cases h; done)
          rename_i l hl
          injection h with h; subst h
          obtain ⟨e1, e2⟩ := cellsL_spec cs 0 o l hl
          have : l = [] := by simpa using e1
          subst this
          refine ⟨.agg ⟨[]⟩, .agg [] [] rfl (by simp), fun w1 hw1 => ?_⟩
          show (loadVar t ⟨B, o, none⟩).run P w1 = _
          exact run_loadVar_agg w1 ht (fun j u hu => by simp at hu)
        · rename_i sz' ht
          split at h <;> try (cases h; done)
          rename_i hlt
          have := Nat.le_of_ble_eq_true hlt; simp at this
        · cases h
      split at h
      · rename_i sz' ht
        split at h <;> try (cases h; done)
        rename_i hle
        split at h <;> try (cases h; done)
        rename_i l hl
        injection h with h; subst h
        obtain ⟨l', hv, hlen, hc⟩ := cells_read h4 hl (Nat.le_of_ble_eq_true hle)
        refine ⟨.agg ⟨l'⟩, .agg l l' hv.1 hv.2, fun w1 hw1 => ?_⟩
        have hB : w1.heap[B]? = some (.cells cur e fr) := by rw [hw1 i B c rfl hp]; exact h1
        show (loadVar t ⟨B, o, none⟩).run P w1 = _
        exact run_loadVar_agg w1 (by rw [hlen]; exact ht) (fun j u hu => by rw [addr_add, cell_in hB]; exact hc j u hu)
      · rename_i sz' ht
        split at h <;> try (cases h; done)
        rename_i hlt
        split at h <;> try (cases h; done)
        rename_i v hv
        injection h with h; subst h
        obtain ⟨v', h5, h6⟩ := h4 o v (Nat.le_of_ble_eq_true hlt) hv
        refine ⟨v', h6, fun w1 hw1 => ?_⟩
        have hB : w1.heap[B]? = some (.cells cur e fr) := by rw [hw1 i B c rfl hp]; exact h1
        show (loadVar t ⟨B, o, none⟩).run P w1 = _
        exact run_loadVar_one w1 ht (by rw [cell_in hB]; exact h5)
      · cases h
    · cases h
  | _ => simp [rLoad] at h
end Go.Ev
namespace Go.Ev
open Go Go.RowKit
set_option linter.unusedVariables false
set_option linter.unusedSimpArgs false

/-! ## parts of a value -/
theorem VRs.drop {φ : Emb} {l l' : List Value} (h : VRs φ l l') (n : Nat) : VRs φ (l.drop n) (l'.drop n) :=
  ⟨by simp [h.1], fun j v v' h1 h2 => h.2 (n + j) v v' (by simpa using h1) (by simpa using h2)⟩
theorem VRs.take {φ : Emb} {l l' : List Value} (h : VRs φ l l') (n : Nat) : VRs φ (l.take n) (l'.take n) := by
  refine ⟨by simp [h.1], fun j v v' h1 h2 => ?_⟩
  rw [List.getElem?_take] at h1 h2
  split at h1
  · rename_i hj; rw [if_pos hj] at h2; exact h.2 j v v' h1 h2
  · cases h1
noncomputable def nthL (l : List Value) : Nat → Option Value :=
  List.rec (motive := fun _ => Nat → Option Value) (fun _ => none) (fun v _ ih n => Nat.casesOn n (some v) (fun m => ih m)) l
theorem nthL_eq : ∀ (l : List Value) (n : Nat), nthL l n = l[n]?
  | [], n => by cases n <;> rfl
  | v :: l, 0 => rfl
  | v :: l, n + 1 => by
    show nthL l n = _
    rw [nthL_eq l n]; simp
noncomputable def dropL (n : Nat) : List Value → List Value :=
  Nat.rec (motive := fun _ => List Value → List Value) (fun l => l) (fun _ ih l => List.casesOn l [] (fun _ l' => ih l')) n
theorem dropL_eq : ∀ (n : Nat) (l : List Value), dropL n l = l.drop n
  | 0, l => rfl
  | n + 1, [] => by simp [dropL]
  | n + 1, v :: l => by
    show dropL n l = _
    rw [dropL_eq n l]; simp
noncomputable def takeL (n : Nat) : List Value → List Value :=
  Nat.rec (motive := fun _ => List Value → List Value) (fun _ => []) (fun _ ih l => List.casesOn l [] (fun v l' => v :: ih l')) n
theorem takeL_eq : ∀ (n : Nat) (l : List Value), takeL n l = l.take n
  | 0, l => by show [] = _; simp
  | n + 1, [] => by simp [takeL]
  | n + 1, v :: l => by
    show v :: takeL n l = _
    rw [takeL_eq n l]; simp
/-- The part of a value that begins at a cell. -/
noncomputable def partL (b : Bool) (sz : Nat) (l : List Value) (off : Nat) : Option Value :=
  match b with
  | true => some (.agg ⟨takeL sz (dropL off l)⟩)
  | false => nthL l off
theorem extract_mk (l : List Value) (i n : Nat) : (⟨l⟩ : Array Value).extract i (i + n) = ⟨(l.drop i).take n⟩ := by
  simp [List.extract_toArray, List.extract_eq_take_drop]
theorem run_part {P : Program} {t : TypeId} {b : Bool} {sz off : Nat} {l l' : List Value} {φ : Emb} {v : Value} (ht : tyLay P t = some (b, sz)) (hl : VRs φ l l') (h : partL b sz l off = some v) :
    ∃ v', VR φ v v' ∧ ∀ w, (part t ⟨l'⟩ off).run P w = .ok v' w := by
  obtain ⟨d, i, hd, hi, ha, hs⟩ := tyLay_spec ht
  cases b with
  | true =>
    simp only [partL, takeL_eq, dropL_eq] at h
    injection h with h; subst h
    refine ⟨.agg ⟨(l'.drop off).take sz⟩, ?_, fun w => ?_⟩
    · have := (hl.drop off).take sz
      exact .agg _ _ this.1 this.2
    · simp only [part, Sem.run_bind, run_isAgg' w hd, ha, Result.andThen_ok, if_true, run_sizeOf' w hi, hs]
      rw [extract_mk]; rfl
  | false =>
    simp only [partL, nthL_eq] at h
    obtain ⟨v', h1, h2⟩ := hl.get h
    refine ⟨v', h2, fun w => ?_⟩
    simp only [part, Sem.run_bind, run_isAgg' w hd, ha, Result.andThen_ok, Bool.false_eq_true, if_false]
    simp [h1]

/-! ## fields -/
/-- A field: its offset, whether it is of several cells, and its size. -/
def fldLay (P : Program) (t : TypeId) (f : Nat) : Option (Nat × Bool × Nat) :=
  match P.underlying t with
  | some (.struct fs) => match fs[f]? with
    | some x => match tyLay P x.type with | some (b, n) => some (x.offset, b, n) | none => none
    | none => none
  | _ => none
theorem fldLay_spec {P : Program} {t : TypeId} {f off sz : Nat} {b : Bool} (h : fldLay P t f = some (off, b, sz)) : ∃ fs x, P.underlying t = some (.struct fs) ∧ fs[f]? = some x ∧ tyLay P x.type = some (b, sz) ∧ x.offset = off := by
  unfold fldLay at h
  split at h <;> try (cases h; done)
  rename_i fs hu
  split at h <;> try (cases h; done)
  rename_i x hx
  split at h <;> try (cases h; done)
  rename_i b' n hl
  injection h with h; injection h with h1 h2; injection h2 with h2 h3
  subst h1; subst h2; subst h3
  exact ⟨fs, x, hu, hx, hl, rfl⟩
noncomputable def rField (P : Program) (t : TypeId) (f : Nat) (v : Value) : Option (Value × Option Nat) :=
  match v with
  | .agg cs => match fldLay P t f with
    | some (off, b, sz) => match partL b sz (listOf cs) off with | some u => some (u, none) | none => none
    | none => none
  | _ => none
theorem rField_ok {P : Program} {φ : Emb} {w : World} {t : TypeId} {f : Nat} {v v' : Value} (hv : VR φ v v') {r : Value × Option Nat} (h : rField P t f v = some r) : ROk P φ w (Instr.field t v' f) r := by
  cases hv with
  | agg cs cs' h1 h2 =>
    simp only [rField, listOf] at h
    split at h <;> try (cases h; done)
    rename_i off b sz hl
    split at h <;> try (cases h; done)
    rename_i u hu
    injection h with h; subst h
    obtain ⟨fs, x, hs, hx, hy, rfl⟩ := fldLay_spec hl
    obtain ⟨v', h3, h4⟩ := run_part hy ⟨h1, h2⟩ hu
    refine ROk.const h3 fun w1 => ?_
    simp only [Instr.field, Sem.run_bind, run_underlying hs w1, Result.andThen_ok, hx, asAgg, Sem.run_pure, h4]
  | _ => simp [rField] at h
noncomputable def rFieldA (P : Program) (t : TypeId) (f : Nat) (v : Value) : Option (Value × Option Nat) :=
  match v with
  | .pointer (some ⟨i, o, none⟩) => match fldLay P t f with
    | some (off, _, sz) => match sz with
      | 0 => none
      | _ + 1 => some (.pointer (some ⟨i, Nat.add o off, none⟩), none)
    | none => none
  | _ => none
theorem rFieldA_ok {P : Program} {φ : Emb} {w : World} {t : TypeId} {f : Nat} {v v' : Value} (hv : VR φ v v') {r : Value × Option Nat} (h : rFieldA P t f v = some r) : ROk P φ w (Instr.fieldAt t v' f) r := by
  cases hv with
  | ptr hp =>
    rename_i i o B c
    simp only [rFieldA] at h
    split at h <;> try (cases h; done)
    rename_i off b sz hl
    split at h <;> try (cases h; done)
    rename_i sz' 
    injection h with h; subst h
    obtain ⟨fs, x, hs, hx, hy, rfl⟩ := fldLay_spec hl
    obtain ⟨d, ii, hd, hi, ha, hsz⟩ := tyLay_spec hy
    refine ROk.const (.ptr hp) fun w1 => ?_
    simp only [Instr.fieldAt, Sem.run_bind, run_underlying hs w1, Result.andThen_ok, hx, Instr.sureAddr, Sem.run_pure, fieldPlace, run_sizeOf' w1 hi, hsz, Nat.succ_ne_zero, if_false, addr_add]
    simp [addr_add]
  | _ => simp [rFieldA] at h

/-! ## index -/
/-- What is indexed at a type: 0: a text; 1: an array; 2: a slice; with the array's length, and the element's lay. -/
def idxLay (P : Program) (t : TypeId) : Option (Nat × Nat × Bool × Nat) :=
  match P.underlying t with
  | some .string => some (0, 0, false, 0)
  | some (.array n e) => match tyLay P e with | some (b, sz) => some (1, n, b, sz) | none => none
  | some (.slice e) => match tyLay P e with | some (b, sz) => some (2, 0, b, sz) | none => none
  | _ => none
noncomputable def nthB (l : List UInt8) : Nat → Option UInt8 :=
  List.rec (motive := fun _ => Nat → Option UInt8) (fun _ => none) (fun v _ ih n => Nat.casesOn n (some v) (fun m => ih m)) l
theorem nthB_eq : ∀ (l : List UInt8) (n : Nat), nthB l n = l[n]?
  | [], n => by cases n <;> rfl
  | v :: l, 0 => rfl
  | v :: l, n + 1 => by
    show nthB l n = _
    rw [nthB_eq l n]; simp
noncomputable def rIndex (P : Program) (t : TypeId) (v ix : Value) : Option (Value × Option Nat) :=
  match ix with
  | .int _ (.ofNat n) => match v with
    | .string s => match idxLay P t with
      | some (0, _) => match nthB (bs s) n with | some b => some (.int .u8 (.ofNat b.toNat), none) | none => none
      | _ => none
    | .agg cs => match idxLay P t with
      | some (1, len, b, sz) => match Nat.blt n len with
        | true => match partL b sz (listOf cs) (Nat.mul n sz) with | some u => some (u, none) | none => none
        | false => none
      | _ => none
    | _ => none
  | _ => none
theorem rIndex_ok {P : Program} {φ : Emb} {w : World} {t : TypeId} {v v' ix ix' : Value} (hv : VR φ v v') (hx : VR φ ix ix') {r : Value × Option Nat} (h : rIndex P t v ix = some r) : ROk P φ w (Instr.index t v' ix') r := by
  cases hx with
  | int k n =>
    cases n with
    | negSucc n => simp [rIndex] at h
    | ofNat n =>
      cases hv with
      | str s =>
        simp only [rIndex] at h
        split at h <;> try (cases h; done)
        rename_i x hl
        split at h <;> try (cases h; done)
        rename_i b hb
        injection h with h; subst h
        rw [nthB_eq] at hb
        have hu : P.underlying t = some .string := by
          unfold idxLay at hl
          split at hl <;> first | assumption | (split at hl <;> simp at hl) | (simp at hl)
        refine ROk.const (.int _ _) fun w1 => ?_
        obtain ⟨⟨l⟩⟩ := s
        have hs : (⟨⟨l⟩⟩ : ByteArray)[n]? = some b := by
          have hlt : n < l.length := (List.getElem?_eq_some_iff.1 hb).1
          have hlt' : n < (⟨⟨l⟩⟩ : ByteArray).size := hlt
          have hb2 := (List.getElem?_eq_some_iff.1 hb).2
          rw [getElem?_pos (⟨⟨l⟩⟩ : ByteArray) n hlt']
          exact congrArg some hb2
        simp [Instr.index, asIntOf, run_underlying hu, hs]
      | agg cs cs' h1 h2 =>
        simp only [rIndex, listOf] at h
        split at h <;> try (cases h; done)
        rename_i len b sz hl
        split at h <;> try (cases h; done)
        rename_i hlt
        split at h <;> try (cases h; done)
        rename_i u hu
        injection h with h; subst h
        have hlt' : n < len := Nat.le_of_ble_eq_true hlt
        unfold idxLay at hl
        split at hl
        · simp at hl
        · rename_i m e hu'
          split at hl <;> try (cases hl; done)
          rename_i b' sz' he
          simp at hl
          obtain ⟨rfl, rfl, rfl⟩ := hl
          obtain ⟨d, ii, hd, hi, ha, hsz⟩ := tyLay_spec he
          obtain ⟨v', h3, h4⟩ := run_part he ⟨h1, h2⟩ hu
          refine ROk.const h3 fun w1 => ?_
          simp [Instr.index, asIntOf, run_underlying hu', hlt', run_sizeOf' w1 hi, hsz]
          exact h4 w1
        · split at hl <;> simp at hl
        · cases hl
      | _ => simp [rIndex] at h
  | _ => simp [rIndex] at h
noncomputable def rIndexA (P : Program) (t : TypeId) (v ix : Value) : Option (Value × Option Nat) :=
  match ix with
  | .int _ (.ofNat n) => match v with
    | .pointer (some ⟨i, o, none⟩) => match idxLay P t with
      | some (1, len, _, sz) => match Nat.blt n len with | true => some (.pointer (some ⟨i, Nat.add o (Nat.mul n sz), none⟩), none) | false => none
      | _ => none
    | .slice (some ⟨i, o, none⟩) l _ => match idxLay P t with
      | some (2, _, _, sz) => match Nat.blt n l with | true => some (.pointer (some ⟨i, Nat.add o (Nat.mul n sz), none⟩), none) | false => none
      | _ => none
    | _ => none
  | _ => none
theorem rIndexA_ok {P : Program} {φ : Emb} {w : World} {t : TypeId} {v v' ix ix' : Value} (hv : VR φ v v') (hx : VR φ ix ix') {r : Value × Option Nat} (h : rIndexA P t v ix = some r) : ROk P φ w (Instr.indexAt t v' ix') r := by
  cases hx with
  | int k n =>
    cases n with
    | negSucc n => simp [rIndexA] at h
    | ofNat n =>
      have slice : ∀ {i o l B c c' : Nat}, φ[i]? = some (B, c) → (match idxLay P t with
          | some (2, _, _, sz) => match Nat.blt n l with | true => some (Value.pointer (some ⟨i, Nat.add o (Nat.mul n sz), none⟩), (none : Option Nat)) | false => none
          | _ => none) = some r → ROk P φ w (Instr.indexAt t (.slice (some ⟨B, o, none⟩) l c') (.int k (.ofNat n))) r := by
        intro i o l B c c' hp h
        split at h <;> try (cases h; done)
        rename_i a b sz hl
        split at h <;> try (cases h; done)
        rename_i hlt
        injection h with h; subst h
        have hlt' : n < l := Nat.le_of_ble_eq_true hlt
        unfold idxLay at hl
        split at hl
        · simp at hl
        · split at hl <;> simp at hl
        · rename_i e hu'
          split at hl <;> try (cases hl; done)
          rename_i b' sz' he
          simp at hl
          obtain ⟨rfl, rfl, rfl⟩ := hl
          obtain ⟨d, ii, hd, hi, ha, hsz⟩ := tyLay_spec he
          refine ROk.const (.ptr hp) fun w1 => ?_
          simp [Instr.indexAt, asIntOf, run_underlying hu', hlt', run_sizeOf' w1 hi, hsz, addr_add]
        · cases hl
      cases hv with
      | ptr hp =>
        rename_i i o B c
        simp only [rIndexA] at h
        split at h <;> try (cases h; done)
        rename_i len b sz hl
        split at h <;> try (cases h; done)
        rename_i hlt
        injection h with h; subst h
        have hlt' : n < len := Nat.le_of_ble_eq_true hlt
        unfold idxLay at hl
        split at hl
        · simp at hl
        · rename_i m e hu'
          split at hl <;> try (cases hl; done)
          rename_i b' sz' he
          simp at hl
          obtain ⟨rfl, rfl, rfl⟩ := hl
          obtain ⟨d, ii, hd, hi, ha, hsz⟩ := tyLay_spec he
          refine ROk.const (.ptr hp) fun w1 => ?_
          simp [Instr.indexAt, asIntOf, run_underlying hu', hlt', run_sizeOf' w1 hi, hsz, addr_add, Instr.sureAddr]
        · split at hl <;> simp at hl
        · cases hl
      | sl l k' hk hp => exact slice hp h
      | slG l hp hl => exact slice hp h
      | slO l c' hp hl ho => exact slice hp h
      | slE a a' c' =>
        obtain ⟨i, o, sp⟩ := a
        cases sp with
        | some x => simp [rIndexA] at h
        | none =>
          simp only [rIndexA] at h
          split at h <;> try (cases h; done)
      | _ => simp [rIndexA] at h
  | _ => simp [rIndexA] at h
end Go.Ev
namespace Go.Ev
open Go Go.RowKit
set_option linter.unusedVariables false
set_option linter.unusedSimpArgs false

/-! ## slices -/
/-- A bound: a number that is not negative. -/
def bound : Option Value → Nat → Option Nat
  | none, d => some d
  | some (.int _ (.ofNat n)), _ => some n
  | _, _ => none
/-- What is sliced at a type: 0: a text; 1: an array behind its address; 2: a slice. -/
def slcLay (P : Program) (t : TypeId) : Option (Nat × Nat × Nat) :=
  match P.underlying t with
  | some .string => some (0, 0, 0)
  | some (.array n e) => match P.info? e with | some i => some (1, n, i.size) | none => none
  | some (.slice e) => match P.info? e with | some i => some (2, 0, i.size) | none => none
  | _ => none
noncomputable def dropB (n : Nat) : List UInt8 → List UInt8 :=
  Nat.rec (motive := fun _ => List UInt8 → List UInt8) (fun l => l) (fun _ ih l => List.casesOn l [] (fun _ l' => ih l')) n
theorem dropB_eq : ∀ (n : Nat) (l : List UInt8), dropB n l = l.drop n
  | 0, l => rfl
  | n + 1, [] => by show [] = _; simp
  | n + 1, v :: l => by
    show dropB n l = _
    rw [dropB_eq n l]; simp
noncomputable def takeB (n : Nat) : List UInt8 → List UInt8 :=
  Nat.rec (motive := fun _ => List UInt8 → List UInt8) (fun _ => []) (fun _ ih l => List.casesOn l [] (fun v l' => v :: ih l')) n
theorem takeB_eq : ∀ (n : Nat) (l : List UInt8), takeB n l = l.take n
  | 0, l => by show [] = _; simp
  | n + 1, [] => by show [] = _; simp
  | n + 1, v :: l => by
    show v :: takeB n l = _
    rw [takeB_eq n l]; simp
noncomputable def lenB (l : List UInt8) : Nat := List.rec (motive := fun _ => Nat) 0 (fun _ _ ih => Nat.succ ih) l
theorem lenB_eq : ∀ l : List UInt8, lenB l = l.length
  | [] => rfl
  | _ :: l => by show Nat.succ (lenB l) = _; rw [lenB_eq l]; rfl
/-- A slice cut: at block i from o on, l of k (m: how far it may go; none: not known). -/
noncomputable def rSlice (P : Program) (t : TypeId) (v : Value) (lo hi mx : Option Value) : Option (Value × Option Nat) :=
  match slcLay P t with
  | some (0, _) => match v with
    | .string s => match mx with
      | none => match bound lo 0 with
        | some l => match bound hi (lenB (bs s)) with
          | some h => match and (Nat.ble l h) (Nat.ble h (lenB (bs s))) with
            | true => some (.string ⟨⟨takeB (Nat.sub h l) (dropB l (bs s))⟩⟩, none)
            | false => none
          | none => none
        | none => none
      | some _ => none
    | _ => none
  | some (1, n, sz) => match v with
    | .pointer (some ⟨i, o, none⟩) => match bound lo 0 with
      | some l => match bound hi n with
        | some h => match mx with
          | none => match and (and (Nat.ble l h) (Nat.ble h n)) (Nat.blt n unk) with
            | true => match Nat.beq n l with
              | true => some (.slice (some ⟨i, o, none⟩) (Nat.sub h l) (Nat.sub n l), none)
              | false => some (.slice (some ⟨i, Nat.add o (Nat.mul l sz), none⟩) (Nat.sub h l) (Nat.sub n l), none)
            | false => none
          | some _ => none
        | none => none
      | none => none
    | _ => none
  | some (2, _, sz) => match v with
    | .slice none len cap => match bound lo 0 with
      | some l => match bound hi len with
        | some h => match bound mx cap with
          | some m => match and (and (Nat.ble l h) (Nat.ble h m)) (and (Nat.ble m cap) (or mx.isNone hi.isSome)) with
            | true => some (.slice none (Nat.sub h l) (Nat.sub m l), none)
            | false => none
          | none => none
        | none => none
      | none => none
    | .slice (some ⟨i, o, none⟩) len cap => match bound lo 0 with
      | some l => match bound hi len with
        | some h => match Nat.blt cap unk with
          | true => match bound mx cap with
            | some m => match and (and (Nat.ble l h) (Nat.ble h m)) (and (Nat.ble m cap) (or mx.isNone hi.isSome)) with
              | true => match Nat.beq m l with
                | true => some (.slice (some ⟨i, o, none⟩) (Nat.sub h l) (Nat.sub m l), none)
                | false => some (.slice (some ⟨i, Nat.add o (Nat.mul l sz), none⟩) (Nat.sub h l) (Nat.sub m l), none)
              | false => none
            | none => none
          | false => match mx with
            | some _ => match bound mx 0 with
              | some m => match Nat.beq cap unk with
                | true => match and (and (Nat.ble l h) (Nat.ble h m)) (and (and (Nat.ble m len) (Nat.blt m unk)) hi.isSome) with
                  | true => match Nat.beq m l with
                    | true => some (.slice (some ⟨i, o, none⟩) (Nat.sub h l) (Nat.sub m l), none)
                    | false => some (.slice (some ⟨i, Nat.add o (Nat.mul l sz), none⟩) (Nat.sub h l) (Nat.sub m l), none)
                  | false => none
                | false => none
              | none => none
            | none => match Nat.beq cap unk with
              | true => match and (Nat.ble l h) (Nat.ble h len) with
                | true => match l with
                  | 0 => some (.slice (some ⟨i, o, none⟩) h unk, none)
                  | l' + 1 => match Nat.beq l len with
                    | true => some (.slice (some ⟨i, o, none⟩) 0 unk2, none)
                    | false => match sz with
                      | 0 => none
                      | _ + 1 => some (.slice (some ⟨i, Nat.add o (Nat.mul l sz), none⟩) (Nat.sub h l) unk, none)
                | false => none
              | false => none
        | none => none
      | none => none
    | _ => none
  | _ => none
theorem bound_ok {φ : Emb} {x x' : Option Value} {d n : Nat} (h : bound x d = some n) (hx : x = none ∧ x' = none ∨ ∃ v v', x = some v ∧ x' = some v' ∧ VR φ v v') :
    (x' = none ∧ n = d) ∨ ∃ k, x' = some (.int k (n : Nat)) := by
  rcases hx with ⟨rfl, rfl⟩ | ⟨v, v', rfl, rfl, hv⟩
  · left; simp only [bound] at h; injection h with h; exact ⟨rfl, h.symm⟩
  · cases hv with
    | int k m =>
      cases m with
      | ofNat m => simp only [bound] at h; injection h with h; subst h; exact .inr ⟨k, rfl⟩
      | negSucc m => simp [bound] at h
    | _ => simp [bound] at h
/-- The bounds of a slice are taken. -/
theorem run_bounds {P : Program} (w : World) (b : Bool) (len cap : Nat) (lo hi mx : Option Value) (l h m : Nat) (hlo : (lo = none ∧ l = 0) ∨ ∃ k, lo = some (.int k (l : Nat))) (hhi : (hi = none ∧ h = len) ∨ ∃ k, hi = some (.int k (h : Nat)))
    (hmx : (mx = none ∧ m = cap) ∨ ∃ k, mx = some (.int k (m : Nat))) (h1 : l ≤ h) (h2 : h ≤ m) (h3 : m ≤ cap) (h4 : mx.isNone = true ∨ hi.isSome = true) : (Instr.sliceBounds b len cap lo hi mx).run P w = .ok (l, h, m) w := by
  have i1 : (l : Int) ≤ (h : Int) := by omega
  have i2 : (h : Int) ≤ (m : Int) := by omega
  have i3 : (m : Int) ≤ (cap : Int) := by omega
  rcases hlo with ⟨rfl, rfl⟩ | ⟨kl, rfl⟩ <;> rcases hhi with ⟨rfl, rfl⟩ | ⟨kh, rfl⟩ <;> rcases hmx with ⟨rfl, rfl⟩ | ⟨km, rfl⟩ <;> first
    | (exfalso; simp at h4; done)
    | simp [Instr.sliceBounds, run_sliceBound, i1, i2, i3]
theorem slcLay_spec {P : Program} {t : TypeId} {k n sz : Nat} (h : slcLay P t = some (k, n, sz)) :
    (k = 0 ∧ P.underlying t = some .string) ∨ (k = 1 ∧ ∃ e i, P.underlying t = some (.array n e) ∧ P.info? e = some i ∧ i.size = sz) ∨ (k = 2 ∧ ∃ e i, P.underlying t = some (.slice e) ∧ P.info? e = some i ∧ i.size = sz) := by
  unfold slcLay at h
  split at h
  · rename_i hu; simp at h; exact .inl ⟨h.1.symm, hu⟩
  · rename_i m e hu
    split at h <;> try (cases h; done)
    rename_i i hi; simp at h; obtain ⟨rfl, rfl, rfl⟩ := h; exact .inr (.inl ⟨rfl, e, i, hu, hi, rfl⟩)
  · rename_i e hu
    split at h <;> try (cases h; done)
    rename_i i hi; simp at h; obtain ⟨rfl, rfl, rfl⟩ := h; exact .inr (.inr ⟨rfl, e, i, hu, hi, rfl⟩)
  · cases h
/-- Operands that may be missing. -/
def VO (φ : Emb) (x x' : Option Value) : Prop := x = none ∧ x' = none ∨ ∃ v v', x = some v ∧ x' = some v' ∧ VR φ v v'
theorem VO.none_iff {φ : Emb} {x x' : Option Value} (h : VO φ x x') : x'.isNone = x.isNone ∧ x'.isSome = x.isSome := by
  rcases h with ⟨rfl, rfl⟩ | ⟨v, v', rfl, rfl, _⟩ <;> simp
theorem run_slice_mk {P : Program} (w : World) {t e : TypeId} {i : TypeInfo} (hu : P.underlying t = some (.slice e)) (hi : P.info? e = some i) (a : Option Addr) (len cap : Nat) (lo hi' mx : Option Value) (l h m : Nat)
    (hb : (Instr.sliceBounds true len cap lo hi' mx).run P w = .ok (l, h, m) w) : (Instr.sliceAt t (.slice a len cap) lo hi' mx).run P w = .ok (.slice (if m = l then a else a.map (·.add (l * i.size))) (h - l) (m - l)) w := by
  simp [Instr.sliceAt, Instr.slice, run_underlying hu, hb, run_sizeOf' w hi]
theorem run_slice_arr {P : Program} (w : World) {t e : TypeId} {n : Nat} {i : TypeInfo} (hu : P.underlying t = some (.array n e)) (hi : P.info? e = some i) (a : Addr) (lo hi' mx : Option Value) (l h m : Nat)
    (hb : (Instr.sliceBounds false n n lo hi' mx).run P w = .ok (l, h, m) w) : (Instr.sliceAt t (.pointer (some a)) lo hi' mx).run P w = .ok (.slice (some (if m = l then a else a.add (l * i.size))) (h - l) (m - l)) w := by
  simp [Instr.sliceAt, Instr.sureAddr, run_underlying hu, hb, run_sizeOf' w hi]
theorem run_slice_str {P : Program} (w : World) {t : TypeId} (hu : P.underlying t = some .string) (s : ByteArray) (lo hi' : Option Value) (l h m : Nat)
    (hb : (Instr.sliceBounds false s.size s.size lo hi' none).run P w = .ok (l, h, m) w) : (Instr.sliceAt t (.string s) lo hi' none).run P w = .ok (.string (s.extract l h)) w := by
  simp [Instr.sliceAt, Instr.slice, run_underlying hu, hb]
theorem bs_size (s : ByteArray) : s.size = (bs s).length := rfl
theorem extract_bs (s : ByteArray) (l h : Nat) (hl : l ≤ h) : s.extract l h = ⟨⟨((bs s).drop l).take (h - l)⟩⟩ := by
  obtain ⟨⟨x⟩⟩ := s
  have : (⟨⟨x⟩⟩ : ByteArray).extract l h = ⟨(⟨x⟩ : Array UInt8).extract l h⟩ := by
    apply ByteArray.ext; simp
  rw [this, show h = l + (h - l) by omega]
  simp [List.extract_toArray, List.extract_eq_take_drop, bs]
theorem rSlice_ok {P : Program} {φ : Emb} {w : World} {t : TypeId} {v v' : Value} (hv : VR φ v v') {lo hi mx lo' hi' mx' : Option Value} (hlo : VO φ lo lo') (hhi : VO φ hi hi') (hmx : VO φ mx mx') {r : Value × Option Nat}
    (h : rSlice P t v lo hi mx = some r) : ROk P φ w (Instr.sliceAt t v' lo' hi' mx') r := by
  unfold rSlice at h
  split at h <;> try (cases h; done)
  · rename_i x hl
    split at h <;> try (cases h; done)
    rename_i s
    split at h <;> try (cases h; done)
    split at h <;> try (cases h; done)
    rename_i l hbl
    split at h <;> try (cases h; done)
    rename_i hh hbh
    split at h <;> try (cases h; done)
    rename_i hc
    injection h with h; subst h
    simp only [Bool.and_eq_true] at hc
    have c1 := Nat.le_of_ble_eq_true hc.1
    have c2 := Nat.le_of_ble_eq_true hc.2
    rw [lenB_eq] at c2 hbh
    rcases slcLay_spec hl with ⟨_, hu⟩ | ⟨h0, _⟩ | ⟨h0, _⟩ <;> try (cases h0; done)
    cases hv with
    | str s =>
    have hm0 : mx' = none := by
      rcases hmx with ⟨_, h0⟩ | ⟨_, _, h0, _⟩
      · exact h0
      · cases h0
    subst hm0
    refine ROk.const (v' := .string ⟨⟨((bs s).drop l).take (hh - l)⟩⟩) ?_ fun w1 => ?_
    · show VR φ (.string ⟨⟨takeB (hh - l) (dropB l (bs s))⟩⟩) _
      rw [takeB_eq, dropB_eq]; exact .str _
    · have hb := run_bounds (P := P) w1 false s.size s.size lo' hi' none l hh s.size (bound_ok hbl hlo) (bound_ok hbh hhi) (.inl ⟨rfl, rfl⟩) c1 (by rw [bs_size]; exact c2) (Nat.le_refl _) (.inl rfl)
      rw [run_slice_str w1 hu s lo' hi' l hh s.size hb, extract_bs s l hh c1]
  · rename_i n sz hl
    rcases slcLay_spec hl with ⟨h0, _⟩ | ⟨_, e, i, hu, hi, hsz⟩ | ⟨h0, _⟩ <;> try (cases h0; done)
    split at h <;> try (cases h; done)
    rename_i ii o
    split at h <;> try (cases h; done)
    rename_i l hbl
    split at h <;> try (cases h; done)
    rename_i hh hbh
    split at h <;> try (cases h; done)
    split at h <;> try (cases h; done)
    rename_i hc
    simp only [Bool.and_eq_true] at hc
    have c1 := Nat.le_of_ble_eq_true hc.1.1
    have c2 := Nat.le_of_ble_eq_true hc.1.2
    have c3 : n < unk := Nat.le_of_ble_eq_true hc.2
    cases hv with
    | ptr hp =>
    rename_i B c
    have hm0 : mx' = none := by
      rcases hmx with ⟨_, h0⟩ | ⟨_, _, h0, _⟩
      · exact h0
      · cases h0
    subst hm0
    have key : ∀ w1 : World, (Instr.sliceAt t (.pointer (some ⟨B, o, none⟩)) lo' hi' none).run P w1 = .ok (.slice (some (if n = l then ⟨B, o, none⟩ else ⟨B, o + l * sz, none⟩)) (hh - l) (n - l)) w1 := by
      intro w1
      have hb := run_bounds (P := P) w1 false n n lo' hi' none l hh n (bound_ok hbl hlo) (bound_ok hbh hhi) (.inl ⟨rfl, rfl⟩) c1 c2 (Nat.le_refl _) (.inl rfl)
      rw [run_slice_arr w1 hu hi _ lo' hi' none l hh n hb, addr_add, hsz]
    split at h
    · rename_i hnl
      have hnl' := Nat.eq_of_beq_eq_true hnl
      injection h with h; subst h
      refine ROk.const (.sl _ _ (by show n - l < unk; omega) hp) fun w1 => ?_
      rw [key w1, if_pos hnl']; rfl
    · rename_i hnl
      have hnl' : ¬ n = l := fun e => by rw [e] at hnl; simp at hnl
      injection h with h; subst h
      refine ROk.const (.sl _ _ (by show n - l < unk; omega) hp) fun w1 => ?_
      rw [key w1, if_neg hnl']; rfl
  · rename_i n sz hl
    rcases slcLay_spec hl with ⟨h0, _⟩ | ⟨h0, _⟩ | ⟨_, e, i, hu, hi, hsz⟩ <;> try (cases h0; done)
    split at h <;> try (cases h; done)
    · rename_i len cap
      split at h <;> try (cases h; done)
      rename_i l hbl
      split at h <;> try (cases h; done)
      rename_i hh hbh
      split at h <;> try (cases h; done)
      rename_i m hbm
      split at h <;> try (cases h; done)
      rename_i hc
      simp only [Bool.and_eq_true] at hc
      have c1 := Nat.le_of_ble_eq_true hc.1.1
      have c2 := Nat.le_of_ble_eq_true hc.1.2
      have c3 := Nat.le_of_ble_eq_true hc.2.1
      injection h with h; subst h
      cases hv with
      | slNil =>
        refine ROk.const (.slNil _ _) fun w1 => ?_
        have hb := run_bounds (P := P) w1 true len cap lo' hi' mx' l hh m (bound_ok hbl hlo) (bound_ok hbh hhi) (bound_ok hbm hmx) c1 c2 c3 (by rw [hmx.none_iff.1, hhi.none_iff.2]; simpa using hc.2.2)
        rw [run_slice_mk w1 hu hi none len cap lo' hi' mx' l hh m hb]
        split <;> rfl
    · rename_i ii o len cap
      split at h <;> try (cases h; done)
      rename_i l hbl
      split at h <;> try (cases h; done)
      rename_i hh hbh
      have run : ∀ (w1 : World) (a : Addr) (cap' m : Nat), ((mx' = none ∧ m = cap') ∨ ∃ k, mx' = some (.int k (m : Nat))) → l ≤ hh → hh ≤ m → m ≤ cap' → (mx'.isNone = true ∨ hi'.isSome = true) →
          (Instr.sliceAt t (.slice (some a) len cap') lo' hi' mx').run P w1 = .ok (.slice (some (if m = l then a else a.add (l * sz))) (hh - l) (m - l)) w1 := by
        intro w1 a cap' m hm c1 c2 c3 c4
        have hb := run_bounds (P := P) w1 true len cap' lo' hi' mx' l hh m (bound_ok hbl hlo) (bound_ok hbh hhi) hm c1 c2 c3 c4
        rw [run_slice_mk w1 hu hi (some a) len cap' lo' hi' mx' l hh m hb, hsz]
        split <;> rfl
      split at h
      · rename_i hcap
        have hcap' : cap < unk := Nat.le_of_ble_eq_true hcap
        split at h <;> try (cases h; done)
        rename_i m hbm
        split at h <;> try (cases h; done)
        rename_i hc
        simp only [Bool.and_eq_true] at hc
        have c1 := Nat.le_of_ble_eq_true hc.1.1
        have c2 := Nat.le_of_ble_eq_true hc.1.2
        have c3 := Nat.le_of_ble_eq_true hc.2.1
        have c4 : mx'.isNone = true ∨ hi'.isSome = true := by rw [hmx.none_iff.1, hhi.none_iff.2]; simpa using hc.2.2
        have hmk : m - l < unk := by omega
        cases hv with
        | sl _ _ hk hp =>
          rename_i B c
          split at h
          · rename_i hml
            have hml' := Nat.eq_of_beq_eq_true hml
            injection h with h; subst h
            refine ROk.const (.sl _ _ hmk hp) fun w1 => ?_
            rw [run w1 _ cap m (bound_ok hbm hmx) c1 c2 c3 c4, if_pos hml']; rfl
          · rename_i hml
            have hml' : ¬ m = l := fun e => by rw [e] at hml; simp at hml
            injection h with h; subst h
            refine ROk.const (.sl _ _ hmk hp) fun w1 => ?_
            rw [run w1 _ cap m (bound_ok hbm hmx) c1 c2 c3 c4, if_neg hml', addr_add]; rfl
        | slG _ hp hl => exact absurd hcap' (Nat.lt_irrefl _)
        | slO _ c' hp hl ho => exact absurd hcap' (Nat.lt_irrefl _)
        | slE _ _ _ => exact absurd hcap' (by unfold unk unk2; omega)
      · rename_i hcap
        split at h
        · rename_i mv
          split at h <;> try (cases h; done)
          rename_i m hbm
          split at h <;> try (cases h; done)
          rename_i hunk
          have hunk' := Nat.eq_of_beq_eq_true hunk
          split at h <;> try (cases h; done)
          rename_i hc
          simp only [Bool.and_eq_true] at hc
          have c1 := Nat.le_of_ble_eq_true hc.1.1
          have c2 := Nat.le_of_ble_eq_true hc.1.2
          have c3 := Nat.le_of_ble_eq_true hc.2.1.1
          have c5 : m < unk := Nat.le_of_ble_eq_true hc.2.1.2
          have c4 : mx'.isNone = true ∨ hi'.isSome = true := by rw [hhi.none_iff.2]; exact .inr hc.2.2
          have hmx' : (∀ cap' : Nat, (mx' = none ∧ m = cap') ∨ ∃ k, mx' = some (.int k (m : Nat))) := fun cap' => by
            rcases bound_ok hbm hmx with ⟨h0, _⟩ | h0
            · have := hmx.none_iff.1; rw [h0] at this; simp at this
            · exact .inr h0
          subst hunk'
          have fin : ∀ (B c cap' : Nat), φ[ii]? = some (B, c) → len ≤ cap' → m < unk → ROk P φ w (Instr.sliceAt t (.slice (some ⟨B, o, none⟩) len cap') lo' hi' mx') r := by
            intro B c cap' hp hle hmu
            split at h
            · rename_i hml
              have hml' := Nat.eq_of_beq_eq_true hml
              injection h with h; subst h
              refine ROk.const (.sl _ _ (by show m - l < unk; omega) hp) fun w1 => ?_
              rw [run w1 _ cap' m (hmx' cap') c1 c2 (Nat.le_trans c3 hle) c4, if_pos hml']; rfl
            · rename_i hml
              have hml' : ¬ m = l := fun e => by rw [e] at hml; simp at hml
              injection h with h; subst h
              refine ROk.const (.sl _ _ (by show m - l < unk; omega) hp) fun w1 => ?_
              rw [run w1 _ cap' m (hmx' cap') c1 c2 (Nat.le_trans c3 hle) c4, if_neg hml', addr_add]; rfl
          cases hv with
          | sl _ _ hk hp => exact absurd hk (Nat.lt_irrefl _)
          | slG _ hp hl => exact fin _ _ _ hp hl c5
          | slO _ c' hp hl ho => exact fin _ _ _ hp hl c5
        · split at h <;> try (cases h; done)
          rename_i hunk
          have hunk' := Nat.eq_of_beq_eq_true hunk
          subst hunk'
          split at h <;> try (cases h; done)
          rename_i hc
          simp only [Bool.and_eq_true] at hc
          have c1 := Nat.le_of_ble_eq_true hc.1
          have c2 := Nat.le_of_ble_eq_true hc.2
          have hm0 : mx' = none := by
            rcases hmx with ⟨_, h0⟩ | ⟨_, _, h0, _⟩
            · exact h0
            · cases h0
          subst hm0
          have fin : ∀ (B c cap' : Nat), φ[ii]? = some (B, c) → len ≤ cap' → ((o = 0 ∧ cap' = c) ∨ 0 < o) → ROk P φ w (Instr.sliceAt t (.slice (some ⟨B, o, none⟩) len cap') lo' hi' none) r := by
            intro B c cap' hp hle ho
            split at h
            · injection h with h; subst h
              rename_i hl0
              have key : ∀ w1, (Instr.sliceAt t (.slice (some ⟨B, o, none⟩) len cap') lo' hi' none).run P w1 = .ok (.slice (some ⟨B, o, none⟩) hh cap') w1 := by
                intro w1
                rw [run w1 _ cap' cap' (.inl ⟨rfl, rfl⟩) c1 (by omega) (Nat.le_refl _) (.inl rfl)]
                have : ((⟨B, o, none⟩ : Addr).add (0 * sz)) = ⟨B, o, none⟩ := by rw [addr_add]; simp
                rw [this]; split <;> rfl
              rcases ho with ⟨rfl, rfl⟩ | ho
              · exact ROk.const (.slG hh hp (by omega)) key
              · exact ROk.const (.slO hh cap' hp (by omega) ho) key
            · rename_i l'
              split at h
              · rename_i hll
                have hll' : l' + 1 = len := Nat.eq_of_beq_eq_true hll
                injection h with h; subst h
                have hh0 : hh = l' + 1 := by omega
                refine ROk.const (.slE _ (if cap' = l' + 1 then ⟨B, o, none⟩ else (⟨B, o, none⟩ : Addr).add ((l' + 1) * sz)) (cap' - (l' + 1))) fun w1 => ?_
                rw [run w1 _ cap' cap' (.inl ⟨rfl, rfl⟩) c1 (by omega) (Nat.le_refl _) (.inl rfl), hh0, Nat.sub_self]
              · rename_i hll
                have hll' : ¬ l' + 1 = len := fun e => by
                  have e' : l'.succ = len := e
                  rw [e'] at hll; simp at hll
                split at h <;> try (cases h; done)
                injection h with h; subst h
                rename_i sz'
                refine ROk.const (.slO _ (cap' - (l' + 1)) hp (by show hh - (l' + 1) ≤ _; omega) (by
                  show 0 < o + (l' + 1) * (sz' + 1)
                  have : 0 < (l' + 1) * (sz' + 1) := Nat.mul_pos (by omega) (by omega)
                  omega)) fun w1 => ?_
                rw [run w1 _ cap' cap' (.inl ⟨rfl, rfl⟩) c1 (by omega) (Nat.le_refl _) (.inl rfl), if_neg (by omega), addr_add]
                rfl
          cases hv with
          | sl _ _ hk hp => exact absurd hk (Nat.lt_irrefl _)
          | slG _ hp hl => exact fin _ _ _ hp hl (.inl ⟨rfl, rfl⟩)
          | slO _ c' hp hl ho => exact fin _ _ _ hp hl (.inr ho)
end Go.Ev
