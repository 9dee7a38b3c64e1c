import Derived.Test.YtojmckbpafkagaaGreatDoorEC
import Derived.Laws.CopyRow
namespace Go.Ev
open Go Go.RowKit
set_option linter.unusedVariables false
set_option linter.unusedSimpArgs false

/-! ## small readings -/
noncomputable def rExtract (v : Value) (ix : Nat) : Option (Value × Option Nat) :=
  match v with
  | .tuple cs => match nthL (listOf cs) ix with | some u => some (u, none) | none => none
  | _ => none
theorem rExtract_ok {P : Program} {φ : Emb} {w : World} {v v' : Value} (hv : VR φ v v') {ix : Nat} {r : Value × Option Nat} (h : rExtract v ix = some r) : ROk P φ w (Instr.extract v' ix) r := by
  cases hv with
  | tuple cs cs' h1 h2 =>
    simp only [rExtract, listOf, nthL_eq] at h
    split at h <;> try (cases h; done)
    rename_i u hu
    injection h with h; subst h
    obtain ⟨v', h3, h4⟩ := VRs.get ⟨h1, h2⟩ hu
    refine ROk.const h4 fun w1 => ?_
    have : (⟨cs'⟩ : Array Value)[ix]? = some v' := by simpa using h3
    simp [Instr.extract, this]
  | _ => simp [rExtract] at h
noncomputable def rNil (v : Value) : Option (Value × Option Nat) :=
  match v with
  | .pointer (some a) => some (v, none)
  | .func (.func f) fs gs => some (v, none)
  | _ => none
theorem rNil_ok {P : Program} {φ : Emb} {w : World} {tm : Tr Value} {v v' : Value} (hv : VR φ v v') {r : Value × Option Nat} (h : rNil v = some r) (o : Oper) (x : Operand) (ho : o.op = .nilCheck x) (ρ : Operand → Value) (hρ : ρ x = v') :
    ∃ v', VR φ r.1 v' ∧ ∀ w1 : World, (execOp ρ o).run P w1 = .ok (.value v') w1 := by
  unfold execOp
  simp only [ho, hρ]
  cases hv with
  | ptr hp => simp only [rNil] at h; injection h with h; subst h; exact ⟨_, .ptr hp, fun w1 => rfl⟩
  | func f fs gs fs' gs' h1 h2 h3 h4 => simp only [rNil] at h; injection h with h; subst h; exact ⟨_, .func f fs gs fs' gs' h1 h2 h3 h4, fun w1 => rfl⟩
  | _ => simp [rNil] at h

/-! ## lengths -/
/-- What has a length at a type: 0: a text; 1: an array; 2: a slice; 3: an array behind its address; 4: a map. -/
def lenLay (P : Program) (t : TypeId) : Option (Nat × Nat) :=
  match P.underlying t with
  | some .string => some (0, 0)
  | some (.array n _) => some (1, n)
  | some (.slice _) => some (2, 0)
  | some (.pointer a) => match P.underlying a with | some (.array n _) => some (1, n) | _ => none
  | _ => none
noncomputable def rLen (P : Program) (t : TypeId) (v : Value) : Option (Value × Option Nat) :=
  match lenLay P t with
  | some (0, _) => match v with | .string s => some (.int .i64 (.ofNat (lenB (bs s))), none) | _ => none
  | some (1, n) => some (.int .i64 (.ofNat n), none)
  | some (2, _) => match v with | .slice _ l _ => some (.int .i64 (.ofNat l), none) | _ => none
  | _ => none
theorem VR.slice_inv {φ : Emb} {a : Option Addr} {l k : Nat} {v' : Value} (h : VR φ (.slice a l k) v') : ∃ a' k', v' = .slice a' l k' ∧ (k < unk → k' = k) := by
  cases h with
  | slNil => exact ⟨none, k, rfl, fun _ => rfl⟩
  | sl _ _ hk hp => exact ⟨_, k, rfl, fun _ => rfl⟩
  | slG _ hp hl => exact ⟨_, _, rfl, fun h => absurd h (Nat.lt_irrefl _)⟩
  | slO _ c' hp hl ho => exact ⟨_, _, rfl, fun h => absurd h (Nat.lt_irrefl _)⟩
  | slE _ _ c' => exact ⟨_, _, rfl, fun h => absurd h (by unfold unk unk2; omega)⟩
theorem rLen_ok {P : Program} {φ : Emb} {w : World} {t ty : TypeId} {v v' : Value} (hv : VR φ v v') {r : Value × Option Nat} (h : rLen P t v = some r) : ROk P φ w (Builtin.len_ #[t] ty #[v']) r := by
  unfold rLen at h
  split at h <;> try (cases h; done)
  · rename_i x hl
    split at h <;> try (cases h; done)
    rename_i s
    injection h with h; subst h
    have hu : P.underlying t = some .string := by
      unfold lenLay at hl
      split at hl <;> first | assumption | (simp at hl; done) | (split at hl <;> simp at hl)
    cases hv with
    | str s =>
    refine ROk.const (.int _ _) fun w1 => ?_
    rw [lenB_eq]
    simp [Builtin.len_, run_underlying hu, goInt, bs_size]
  · rename_i n hl
    injection h with h; subst h
    refine ROk.const (.int _ _) fun w1 => ?_
    unfold lenLay at hl
    split at hl <;> try (simp at hl; done)
    · rename_i m e hu
      simp at hl; subst hl
      cases hv <;> simp [Builtin.len_, run_underlying hu, goInt]
    · rename_i a hu
      split at hl <;> try (cases hl; done)
      rename_i m e hu2
      simp at hl; subst hl
      cases hv <;> simp [Builtin.len_, run_underlying hu, run_underlying hu2, goInt]
  · rename_i x hl
    split at h <;> try (cases h; done)
    rename_i a l k
    injection h with h; subst h
    obtain ⟨a', k', rfl, _⟩ := hv.slice_inv
    have hu : ∃ e, P.underlying t = some (.slice e) := by
      unfold lenLay at hl
      split at hl <;> first | exact ⟨_, by assumption⟩ | (simp at hl; done) | (split at hl <;> simp at hl)
    obtain ⟨e, hu⟩ := hu
    refine ROk.const (.int _ _) fun w1 => ?_
    simp [Builtin.len_, run_underlying hu, goInt]
noncomputable def rCap (P : Program) (t : TypeId) (v : Value) : Option (Value × Option Nat) :=
  match lenLay P t with
  | some (2, _) => match v with | .slice _ _ k => (match Nat.blt k unk with | true => some (.int .i64 (.ofNat k), none) | false => none) | _ => none
  | _ => none
theorem rCap_ok {P : Program} {φ : Emb} {w : World} {t ty : TypeId} {v v' : Value} (hv : VR φ v v') {r : Value × Option Nat} (h : rCap P t v = some r) : ROk P φ w (Builtin.cap_ #[t] ty #[v']) r := by
  unfold rCap at h
  split at h <;> try (cases h; done)
  rename_i x hl
  split at h <;> try (cases h; done)
  rename_i a l k
  split at h <;> try (cases h; done)
  rename_i hk
  injection h with h; subst h
  obtain ⟨a', k', rfl, hk'⟩ := hv.slice_inv
  obtain rfl := hk' (Nat.le_of_ble_eq_true hk)
  have hu : ∃ e, P.underlying t = some (.slice e) := by
    unfold lenLay at hl
    split at hl <;> first | exact ⟨_, by assumption⟩ | (simp at hl; done) | (split at hl <;> simp at hl)
  obtain ⟨e, hu⟩ := hu
  refine ROk.const (.int _ _) fun w1 => ?_
  simp [Builtin.cap_, run_underlying hu, goInt]
/-- min and max of two whole numbers. -/
def rMin (b : Bool) (x y : Value) : Option (Value × Option Nat) :=
  match x, y with
  | .int k a, .int _ c => match b with
    | true => match ltI c a with | true => some (.int k c, none) | false => some (.int k a, none)
    | false => match ltI a c with | true => some (.int k c, none) | false => some (.int k a, none)
  | _, _ => none
theorem rMin_ok {P : Program} {φ : Emb} {w : World} {ts : Array TypeId} {ty : TypeId} {x x' y y' : Value} (hx : VR φ x x') (hy : VR φ y y') {r : Value × Option Nat} (h : rMin true x y = some r) : ROk P φ w (Builtin.min_ ts ty #[x', y']) r := by
  cases hx with
  | int k a =>
    cases hy with
    | int j c =>
      simp only [rMin, ltI_eq] at h
      split at h
      · rename_i hlt; simp at hlt; injection h with h; subst h
        exact ROk.const (.int _ _) fun w1 => by simp [Builtin.min_, Builtin.min2, hlt]
      · rename_i hlt; simp at hlt; injection h with h; subst h
        exact ROk.const (.int _ _) fun w1 => by simp [Builtin.min_, Builtin.min2, Int.not_lt.2 hlt]
    | _ => simp [rMin] at h
  | _ => simp [rMin] at h
theorem rMax_ok {P : Program} {φ : Emb} {w : World} {ts : Array TypeId} {ty : TypeId} {x x' y y' : Value} (hx : VR φ x x') (hy : VR φ y y') {r : Value × Option Nat} (h : rMin false x y = some r) : ROk P φ w (Builtin.max_ ts ty #[x', y']) r := by
  cases hx with
  | int k a =>
    cases hy with
    | int j c =>
      simp only [rMin, ltI_eq] at h
      split at h
      · rename_i hlt; simp at hlt; injection h with h; subst h
        exact ROk.const (.int _ _) fun w1 => by simp [Builtin.max_, Builtin.max2, hlt]
      · rename_i hlt; simp at hlt; injection h with h; subst h
        exact ROk.const (.int _ _) fun w1 => by simp [Builtin.max_, Builtin.max2, Int.not_lt.2 hlt]
    | _ => simp [rMin] at h
  | _ => simp [rMin] at h

/-! ## conversions -/
/-- What a conversion does: (0, k): to whole numbers of kind k; 1: of a text to one; 2: of bytes to a text; 3: of a text to bytes (it writes). -/
def cnvLay (P : Program) (s d : TypeId) : Option (Nat × IntKind) :=
  match P.underlying s with
  | some (.int _) => match P.underlying d with | some (.int k) => some (0, k) | some .string => some (4, .i64) | _ => none
  | some .string => match P.underlying d with
    | some .string => some (1, .i64)
    | some (.slice e) => match P.underlying e with | some (.int .u8) => some (3, .i64) | _ => none
    | _ => none
  | some (.slice e) => match P.underlying e with | some (.int .u8) => (match P.underlying d with | some .string => some (2, .i64) | _ => none) | _ => none
  | some (.pointer t) => match P.underlying d with | some .unsafePointer => (match tyLay P t with | some (_, _ + 1) => some (5, .i64) | _ => none) | _ => none
  | some .unsafePointer => match P.underlying d with | some (.pointer _) => some (6, .i64) | _ => none
  | _ => none
/-- Bytes out of cells. -/
def byte1 : Value → Option UInt8
  | .int .u8 (.ofNat n) => match Nat.blt n 256 with | true => some (UInt8.ofNat n) | false => none
  | _ => none
theorem byte1_spec {v : Value} {u : UInt8} (h : byte1 v = some u) : v = .int .u8 (u.toNat : Int) := by
  unfold byte1 at h
  split at h <;> try (cases h; done)
  rename_i n
  split at h <;> try (cases h; done)
  rename_i hn
  injection h with h; subst h
  have hn' : n + 1 ≤ 256 := Nat.le_of_ble_eq_true hn
  have : n % 256 = n := Nat.mod_eq_of_lt hn'
  simp [this]
noncomputable def bytesL (l : List Value) : Option (List UInt8) :=
  List.rec (motive := fun _ => Option (List UInt8)) (some []) (fun v _ ih => match byte1 v with | some u => (match ih with | some l => some (u :: l) | none => none) | none => none) l
theorem bytesL_spec {φ : Emb} : ∀ {l : List Value} {b : List UInt8}, bytesL l = some b → l = b.map (fun x => Value.int .u8 (x.toNat : Int))
  | [], b, h => by injection h with h; subst h; rfl
  | v :: l, b, h => by
    have h' : (match byte1 v with | some u => (match bytesL l with | some l => some (u :: l) | none => none) | none => none) = some b := h
    split at h' <;> try (cases h'; done)
    rename_i u hu
    split at h' <;> try (cases h'; done)
    rename_i l' hl'
    injection h' with h'; subst h'
    rw [bytesL_spec (φ := φ) hl', byte1_spec hu]
    simp
theorem VRs.bytes {φ : Emb} {b : List UInt8} {l' : List Value} (h : VRs φ (b.map (fun x => Value.int .u8 (x.toNat : Int))) l') : l' = b.map (fun x => Value.int .u8 (x.toNat : Int)) := by
  apply List.ext_getElem?
  intro j
  by_cases hj : j < b.length
  · have hj' : j < l'.length := by rw [← h.1]; simpa using hj
    have := h.2 j _ l'[j] (by simp [hj]; rfl) (by simp [hj'])
    cases hv : l'[j] with
    | int k n =>
      rw [hv] at this
      cases this
      simp [hj, hj', hv]
    | _ => rw [hv] at this; cases this
  · have h1 := h.1
    simp at h1
    rw [List.getElem?_eq_none (by omega), List.getElem?_eq_none (by simp; omega)]
noncomputable def rConv (P : Program) (H : Heap) (s d : TypeId) (v : Value) : Option (Value × Option Nat) :=
  match cnvLay P s d with
  | some (0, k) => match v with | .int _ n => some (.int k (fwrap k n), none) | _ => none
  | some (1, _) => match v with | .string _ => some (v, none) | _ => none
  | some (2, _) => match v with
    | .slice none _ _ => some (.string ⟨⟨[]⟩⟩, none)
    | .slice (some ⟨i, o, none⟩) l k => match l with
      | 0 => some (.string ⟨⟨[]⟩⟩, none)
      | _ + 1 => match H.blks.get i with
        | some (.row _ _ _ n cs) => match Nat.ble (Nat.add o l) n with
          | true => match cellsL cs l o with
            | some xs => match bytesL xs with | some b => some (.string ⟨⟨b⟩⟩, some i) | none => none
            | none => none
          | false => none
        | _ => none
    | _ => none
  | some (4, _) => match v with | .int _ n => some (.string (Utf8.encode n), none) | _ => none
  | some (5, _) => match v with
    | .pointer none => some (v, none)
    | .pointer (some ⟨i, o, none⟩) => match H.blks.get i with
      | some (.row _ _ _ n _) => match Nat.blt o n with | true => some (v, some i) | false => none
      | _ => none
    | _ => none
  | some (6, _) => match v with
    | .pointer none => some (v, none)
    | .pointer (some ⟨i, o, none⟩) => match H.blks.get i with
      | some (.row _ e 0 n _) => match P.underlying d with
        | some (.pointer u) => match and (liesAt P P.depth e (n / P.cellsOf e) o u 1) ((P.info? u).isSome) with | true => some (v, some i) | false => none
        | _ => none
      | _ => none
    | _ => none
  | _ => none
theorem cnvLay_spec {P : Program} {s d : TypeId} {n : Nat} {k : IntKind} (h : cnvLay P s d = some (n, k)) :
    (n = 0 ∧ (∃ j, P.underlying s = some (.int j)) ∧ P.underlying d = some (.int k)) ∨ (n = 1 ∧ P.underlying s = some .string ∧ P.underlying d = some .string) ∨
    (n = 2 ∧ ∃ e, P.underlying s = some (.slice e) ∧ P.underlying e = some (.int .u8) ∧ P.underlying d = some .string) ∨ (n = 3 ∧ ∃ e, P.underlying s = some .string ∧ P.underlying d = some (.slice e) ∧ P.underlying e = some (.int .u8)) ∨
    (n = 4 ∧ (∃ j, P.underlying s = some (.int j)) ∧ P.underlying d = some .string) ∨ (n = 5 ∧ ∃ t b k, P.underlying s = some (.pointer t) ∧ P.underlying d = some .unsafePointer ∧ tyLay P t = some (b, k + 1)) ∨
    (n = 6 ∧ P.underlying s = some .unsafePointer ∧ ∃ u, P.underlying d = some (.pointer u)) := by
  unfold cnvLay at h
  split at h
  · rename_i j hs
    split at h <;> try (cases h; done)
    · rename_i k' hd; simp at h; obtain ⟨rfl, rfl⟩ := h; exact .inl ⟨rfl, ⟨j, hs⟩, hd⟩
    · rename_i hd; simp at h; obtain ⟨rfl, rfl⟩ := h; exact .inr (.inr (.inr (.inr (.inl ⟨rfl, ⟨j, hs⟩, hd⟩))))
  · rename_i hs
    split at h <;> try (cases h; done)
    · rename_i hd; simp at h; obtain ⟨rfl, rfl⟩ := h; exact .inr (.inl ⟨rfl, hs, hd⟩)
    · rename_i e hd
      split at h <;> try (cases h; done)
      rename_i he; simp at h; obtain ⟨rfl, rfl⟩ := h; exact .inr (.inr (.inr (.inl ⟨rfl, e, hs, hd, he⟩)))
  · rename_i e hs
    split at h <;> try (cases h; done)
    rename_i he
    split at h <;> try (cases h; done)
    rename_i hd; simp at h; obtain ⟨rfl, rfl⟩ := h; exact .inr (.inr (.inl ⟨rfl, e, hs, he, hd⟩))
  · rename_i t hs
    split at h <;> try (cases h; done)
    rename_i hd
    split at h <;> try (cases h; done)
    rename_i b k hl
    simp at h; obtain ⟨rfl, rfl⟩ := h; exact .inr (.inr (.inr (.inr (.inr (.inl ⟨rfl, t, b, k, hs, hd, hl⟩)))))
  · rename_i hs
    split at h <;> try (cases h; done)
    rename_i u hd
    simp at h; obtain ⟨rfl, rfl⟩ := h; exact .inr (.inr (.inr (.inr (.inr (.inr ⟨rfl, hs, u, hd⟩)))))
  · cases h
theorem run_conv_nil {P : Program} (w : World) {s d e : TypeId} (hs : P.underlying s = some (.slice e)) (he : P.underlying e = some (.int .u8)) (hd : P.underlying d = some .string) (l c : Nat) :
    (convert s d (.slice none l c)).run P w = .ok (.string ⟨⟨[]⟩⟩) w := by
  simp [convert, run_underlying hs, run_underlying hd, run_underlying he, Conv.bytesToString]
  rfl
theorem rConv_ok {P : Program} {base : Bas} {φ : Emb} {H : Heap} {w : World} (hH : HR base φ H w) {s d : TypeId} {v v' : Value} (hv : VR φ v v') {r : Value × Option Nat} (h : rConv P H s d v = some r) : ROk P φ w (convert s d v') r := by
  unfold rConv at h
  split at h <;> try (cases h; done)
  · rename_i k hl
    rcases cnvLay_spec hl with ⟨_, ⟨j, hs⟩, hd⟩ | ⟨h0, _⟩ | ⟨h0, _⟩ | ⟨h0, _⟩ | ⟨h0, _⟩ | ⟨h0, _⟩ | ⟨h0, _⟩ <;> try (cases h0; done)
    split at h <;> try (cases h; done)
    injection h with h; subst h
    cases hv
    refine ROk.const (.int _ _) fun w1 => ?_
    simp [convert, run_underlying hs, run_underlying hd, Conv.intToInt, fwrap_eq]
  · rename_i k hl
    rcases cnvLay_spec hl with ⟨h0, _⟩ | ⟨_, hs, hd⟩ | ⟨h0, _⟩ | ⟨h0, _⟩ | ⟨h0, _⟩ | ⟨h0, _⟩ | ⟨h0, _⟩ <;> try (cases h0; done)
    split at h <;> try (cases h; done)
    injection h with h; subst h
    cases hv
    refine ROk.const (.str _) fun w1 => ?_
    simp [convert, run_underlying hs, run_underlying hd]
  · rename_i k hl
    rcases cnvLay_spec hl with ⟨h0, _⟩ | ⟨h0, _⟩ | ⟨_, e, hs, he, hd⟩ | ⟨h0, _⟩ | ⟨h0, _⟩ | ⟨h0, _⟩ | ⟨h0, _⟩ <;> try (cases h0; done)
    split at h <;> try (cases h; done)
    · injection h with h; subst h
      cases hv
      exact ROk.const (.str _) fun w1 => run_conv_nil w1 hs he hd _ _
    · rename_i i o l k'
      split at h
      · injection h with h; subst h
        obtain ⟨a', k2, rfl, _⟩ := hv.slice_inv
        refine ROk.const (.str _) fun w1 => ?_
        cases a' with
        | none => exact run_conv_nil w1 hs he hd _ _
        | some a' => exact run_convert_bytes_back w1 s d e a' k2 [] hs he hd (fun j hj => absurd hj (by simp))
      · rename_i l'
        split at h <;> try (cases h; done)
        rename_i ver el sz n cs hi
        split at h <;> try (cases h; done)
        rename_i hle
        split at h <;> try (cases h; done)
        rename_i xs hxs
        split at h <;> try (cases h; done)
        rename_i b hb
        injection h with h; subst h
        have fin : ∀ (B c k2 : Nat), φ[i]? = some (B, c) → ROk P φ w (convert s d (.slice (some ⟨B, o, none⟩) (l' + 1) k2)) (.string ⟨⟨b⟩⟩, some i) := by
          intro B c k2 hp
          obtain ⟨cur, fr, h1, h2, h3, h4⟩ := hH.row hp hi
          obtain ⟨ys, hv, hlen, hc⟩ := cells_read h4 hxs (Nat.le_of_ble_eq_true hle)
          rw [bytesL_spec (φ := φ) hb] at hv
          have hys := hv.bytes
          subst hys
          refine ⟨.string ⟨⟨b⟩⟩, .str _, fun w1 hw1 => ?_⟩
          have hB : w1.heap[B]? = some (.cells cur el fr) := by rw [hw1 i B c rfl hp]; exact h1
          have hbl : b.length = l' + 1 := by simpa using hlen
          rw [← hbl]
          exact run_convert_bytes_back w1 s d e ⟨B, o, none⟩ k2 b hs he hd (fun j hj => by
            rw [addr_add, cell_in hB]
            exact hc j _ (by simp [hj]))
        cases hv with
        | sl _ _ hk hp => exact fin _ _ _ hp
        | slG _ hp hl => exact fin _ _ _ hp
        | slO _ c' hp hl ho => exact fin _ _ _ hp
  · rename_i k hl
    rcases cnvLay_spec hl with ⟨h0, _⟩ | ⟨h0, _⟩ | ⟨h0, _⟩ | ⟨h0, _⟩ | ⟨_, ⟨j, hs⟩, hd⟩ | ⟨h0, _⟩ | ⟨h0, _⟩ <;> try (cases h0; done)
    split at h <;> try (cases h; done)
    injection h with h; subst h
    cases hv
    refine ROk.const (.str _) fun w1 => ?_
    simp [convert, run_underlying hs, run_underlying hd, Conv.intToString]
  · rename_i k hl
    rcases cnvLay_spec hl with ⟨h0, _⟩ | ⟨h0, _⟩ | ⟨h0, _⟩ | ⟨h0, _⟩ | ⟨h0, _⟩ | ⟨_, t, b, kk, hs, hd, hlay⟩ | ⟨h0, _⟩ <;> try (cases h0; done)
    split at h <;> try (cases h; done)
    · injection h with h; subst h
      cases hv
      refine ROk.const .ptrNil fun w1 => ?_
      simp [convert, Conv.unsafePointer, run_underlying hs, run_underlying hd]
    · rename_i i o
      split at h <;> try (cases h; done)
      rename_i ver e sz n cs hi
      split at h <;> try (cases h; done)
      rename_i hlt
      injection h with h; subst h
      cases hv with
      | ptr hp =>
      rename_i B c
      obtain ⟨cur, fr, h1, h2, h3, h4⟩ := hH.row hp hi
      have hn : o < cur.size := by
        have : o < n := Nat.le_of_ble_eq_true hlt
        split at h3
        · omega
        · obtain ⟨h5, h6, h7⟩ := h3; omega
      obtain ⟨dd, ii, hdd, hii, hag, hsz⟩ := tyLay_spec hlay
      refine ⟨_, .ptr hp, fun w1 hw1 => ?_⟩
      have hB : w1.heap[B]? = some (.cells cur e fr) := by rw [hw1 i B c rfl hp]; exact h1
      have hsh : w1.shape? B = some (e, cur.size) := by simp [World.shape?, hB]
      have hz : ¬ ii.size = 0 := by omega
      have hno : ¬ (cur.size ≤ o) := by omega
      simp [convert, Conv.unsafePointer, run_underlying hs, run_underlying hd, Conv.seenAt, viewAt, cellsIn, hsh, run_sizeOf' w1 hii, hz, hno]
  · rename_i k hl
    rcases cnvLay_spec hl with ⟨h0, _⟩ | ⟨h0, _⟩ | ⟨h0, _⟩ | ⟨h0, _⟩ | ⟨h0, _⟩ | ⟨h0, _⟩ | ⟨_, hs, u, hd⟩ <;> try (cases h0; done)
    split at h <;> try (cases h; done)
    · injection h with h; subst h
      cases hv
      refine ROk.const .ptrNil fun w1 => ?_
      simp [convert, Conv.unsafePointer, run_underlying hs, run_underlying hd]
    · rename_i i o
      split at h <;> try (cases h; done)
      rename_i ver e n cs hi
      rw [hd] at h
      simp only at h
      split at h <;> try (cases h; done)
      rename_i hlie
      injection h with h; subst h
      simp only [Bool.and_eq_true] at hlie
      cases hv with
      | ptr hp =>
      rename_i B c
      obtain ⟨cur, fr, h1, h2, h3, h4⟩ := hH.row hp hi
      rw [if_pos rfl] at h3
      refine ⟨_, .ptr hp, fun w1 hw1 => ?_⟩
      have hB : w1.heap[B]? = some (.cells cur e fr) := by rw [hw1 i B c rfl hp]; exact h1
      have hsh : w1.shape? B = some (e, cur.size) := by simp [World.shape?, hB]
      cases hu : P.info? u with
      | none => rw [hu] at hlie; simp at hlie
      | some iu =>
        have hva : (variablesAt ⟨B, o, none⟩ u 1).run P w1 = .ok true w1 := by
          simp [variablesAt, hsh, h3, hlie.1]
        simp [convert, Conv.unsafePointer, run_underlying hs, run_underlying hd, Conv.seenAt, viewAt, hsh, run_sizeOf' w1 hu, hva]
end Go.Ev
namespace Go.Ev
open Go Go.RowKit
set_option linter.unusedVariables false
set_option linter.unusedSimpArgs false

/-! ## equality -/
/-- How values of a type are compared: 0: truth values; 1: whole numbers; 2: texts; 3: with nil alone; 4: field by field. -/
def eqLay (P : Program) (t : TypeId) : Option (Nat × List (TypeId × Nat)) :=
  match P.underlying t with
  | some .bool => some (0, [])
  | some (.int _) => some (1, [])
  | some .string => some (2, [])
  | some (.pointer e) => some (3, [(e, 0)])
  | some (.slice _) => some (5, [])
  | some (.map _ _) => some (6, [])
  | some (.func _ _ _) => some (7, [])
  | some (.interface _) => some (8, [])
  | some (.struct fs) => match or (P.stoodInHeld t) (or (P.eqGuardType P.depth t) (fs.toList.any (fun f => f.name == "_"))) with
    | true => none
    | false => some (4, fs.toList.map (fun f => (f.type, f.offset)))
  | _ => none
/-- Is it nil? (3: an address; 5: a slice; 6: a map; 7: a function) -/
def nilP : Value → Option Bool | .pointer a => some a.isNone | _ => none
def nilS : Value → Option Bool | .slice a _ _ => some a.isNone | _ => none
def nilM : Value → Option Bool | .map a => some a.isNone | _ => none
def nilF : Value → Option Bool | .nilFunc => some true | .func _ _ _ => some false | _ => none
def nilI : Value → Option Bool | .nilIface => some true | .iface _ _ => some false | _ => none
def nil2 (x y : Option Bool) : Option Bool :=
  match x with
  | some true => y
  | some false => match y with | some true => some false | _ => none
  | none => none
/-- Two addresses of one block. -/
def ptrEq (P : Program) (fs : List (TypeId × Nat)) (x y : Value) : Option Bool :=
  match x, y with
  | .pointer (some ⟨i, o, none⟩), .pointer (some ⟨j, p, none⟩) => match fs with
    | [(e, _)] => match tyLay P e with
      | some (_, _ + 1) => match Nat.beq i j with | true => some (Nat.beq o p) | false => none
      | _ => none
    | _ => none
  | _, _ => none
def orE (a b : Option Bool) : Option Bool := match a with | some x => some x | none => b
noncomputable def eqFs (eq : TypeId → Value → Value → Option Bool) (P : Program) (xs ys : List Value) (fs : List (TypeId × Nat)) : Option Bool :=
  List.rec (motive := fun _ => Option Bool) (some true)
    (fun f _ ih => match tyLay P f.1 with
      | some (b, sz) => match partL b sz xs f.2 with
        | some x => match partL b sz ys f.2 with
          | some y => match eq f.1 x y with
            | some true => ih
            | some false => some false
            | none => none
          | none => none
        | none => none
      | none => none) fs
noncomputable def eqStep (P : Program) (eq : TypeId → Value → Value → Option Bool) (t : TypeId) (x y : Value) : Option Bool :=
  match eqLay P t with
  | some (0, _) => match x, y with | .bool a, .bool b => some (a == b) | _, _ => none
  | some (1, _) => match x, y with | .int k a, .int j b => (match decide (k = j) with | true => some (eqI a b) | false => none) | _, _ => none
  | some (2, _) => match x, y with | .string a, .string b => some (eqL (bs a) (bs b)) | _, _ => none
  | some (3, fs) => orE (nil2 (nilP x) (nilP y)) (ptrEq P fs x y)
  | some (5, _) => nil2 (nilS x) (nilS y)
  | some (6, _) => nil2 (nilM x) (nilM y)
  | some (7, _) => nil2 (nilF x) (nilF y)
  | some (8, _) => nil2 (nilI x) (nilI y)
  | some (4, fs) => match x, y with | .agg a, .agg b => eqFs eq P (listOf a) (listOf b) fs | _, _ => none
  | _ => none
noncomputable def eqV (P : Program) (n : Nat) : TypeId → Value → Value → Option Bool :=
  Nat.rec (motive := fun _ => TypeId → Value → Value → Option Bool) (fun _ _ _ => none) (fun _ ih => eqStep P ih) n
theorem eqV_succ (P : Program) (n : Nat) (t : TypeId) (x y : Value) : eqV P (n + 1) t x y = eqStep P (eqV P n) t x y := rfl
theorem eqLay_spec {P : Program} {t : TypeId} {n : Nat} {fs : List (TypeId × Nat)} (h : eqLay P t = some (n, fs)) :
    (n = 0 ∧ P.underlying t = some .bool) ∨ (n = 1 ∧ ∃ k, P.underlying t = some (.int k)) ∨ (n = 2 ∧ P.underlying t = some .string) ∨
    (n = 3 ∧ ∃ e, P.underlying t = some (.pointer e) ∧ fs = [(e, 0)]) ∨ (n = 5 ∧ ∃ e, P.underlying t = some (.slice e)) ∨ (n = 6 ∧ ∃ k e, P.underlying t = some (.map k e)) ∨ (n = 7 ∧ ∃ a b c, P.underlying t = some (.func a b c)) ∨ (n = 8 ∧ ∃ ms, P.underlying t = some (.interface ms)) ∨
    (n = 4 ∧ ∃ gs : Array Field, P.underlying t = some (.struct gs) ∧ P.stoodInHeld t = false ∧ P.eqGuardType P.depth t = false ∧ (∀ f ∈ gs.toList, f.name ≠ "_") ∧ fs = gs.toList.map (fun f => (f.type, f.offset))) := by
  unfold eqLay at h
  split at h
  · rename_i hu; simp at h; exact .inl ⟨h.1.symm, hu⟩
  · rename_i k hu; simp at h; exact .inr (.inl ⟨h.1.symm, k, hu⟩)
  · rename_i hu; simp at h; exact .inr (.inr (.inl ⟨h.1.symm, hu⟩))
  · rename_i e hu; simp at h; exact .inr (.inr (.inr (.inl ⟨h.1.symm, e, hu, h.2.symm⟩)))
  · rename_i e hu; simp at h; exact .inr (.inr (.inr (.inr (.inl ⟨h.1.symm, e, hu⟩))))
  · rename_i k e hu; simp at h; exact .inr (.inr (.inr (.inr (.inr (.inl ⟨h.1.symm, k, e, hu⟩)))))
  · rename_i a b c hu; simp at h; exact .inr (.inr (.inr (.inr (.inr (.inr (.inl ⟨h.1.symm, a, b, c, hu⟩))))))
  · rename_i ms hu; simp at h; exact .inr (.inr (.inr (.inr (.inr (.inr (.inr (.inl ⟨h.1.symm, ms, hu⟩)))))))
  · rename_i gs hu
    split at h <;> try (cases h; done)
    rename_i hc
    simp only [Bool.or_eq_false_iff, List.any_eq_false, beq_iff_eq] at hc
    simp at h
    exact .inr (.inr (.inr (.inr (.inr (.inr (.inr (.inr ⟨h.1.symm, gs, hu, hc.1, hc.2.1, hc.2.2, h.2.symm⟩)))))))
  · cases h
theorem fieldsOf_eq {P : Program} {t : TypeId} {gs : Array Field} (h : P.underlying t = some (.struct gs)) : P.fieldsOf t = gs := by simp [Program.fieldsOf, h]
theorem nilP_inv {φ : Emb} {x x' : Value} (h : VR φ x x') {b : Bool} (hb : nilP x = some b) : ∃ a, x' = .pointer a ∧ a.isNone = b := by
  cases h <;> first | (cases hb; done) | (injection hb with hb; exact ⟨_, rfl, hb⟩)
theorem nilS_inv {φ : Emb} {x x' : Value} (h : VR φ x x') {b : Bool} (hb : nilS x = some b) : ∃ a l k, x' = .slice a l k ∧ a.isNone = b := by
  cases h <;> first | (cases hb; done) | (injection hb with hb; exact ⟨_, _, _, rfl, hb⟩)
theorem nilM_inv {φ : Emb} {x x' : Value} (h : VR φ x x') {b : Bool} (hb : nilM x = some b) : ∃ a, x' = .map a ∧ a.isNone = b := by
  cases h <;> first | (cases hb; done) | (injection hb with hb; exact ⟨_, rfl, hb⟩)
theorem nilF_inv {φ : Emb} {x x' : Value} (h : VR φ x x') {b : Bool} (hb : nilF x = some b) : (x' = .nilFunc ∧ b = true) ∨ ((∃ f g k, x' = .func f g k) ∧ b = false) := by
  cases h <;> first | (cases hb; done) | (injection hb with hb; first | exact .inl ⟨rfl, hb.symm⟩ | exact .inr ⟨⟨_, _, _, rfl⟩, hb.symm⟩)
theorem nilI_inv {φ : Emb} {x x' : Value} (h : VR φ x x') {b : Bool} (hb : nilI x = some b) : (x' = .nilIface ∧ b = true) ∨ ((∃ f g, x' = .iface f g) ∧ b = false) := by
  cases h <;> first | (cases hb; done) | (injection hb with hb; first | exact .inl ⟨rfl, hb.symm⟩ | exact .inr ⟨⟨_, _, rfl⟩, hb.symm⟩)
theorem nil2_some {x y : Option Bool} {b : Bool} (h : nil2 x y = some b) : ∃ p q, x = some p ∧ y = some q ∧ ((p = true ∧ b = q) ∨ (p = false ∧ q = true ∧ b = false)) := by
  unfold nil2 at h
  split at h
  · exact ⟨true, b, rfl, h, .inl ⟨rfl, rfl⟩⟩
  · split at h <;> try (cases h; done)
    injection h with h; exact ⟨false, true, rfl, rfl, .inr ⟨rfl, rfl, h.symm⟩⟩
  · cases h
theorem eqV_ok {P : Program} {φ : Emb} : ∀ (n : Nat) (t : TypeId) (x y x' y' : Value) (b : Bool), eqV P n t x y = some b → VR φ x x' → VR φ y y' → ∀ (m : Nat) (w : World), (Op.equalIn (n + m) t x' y').run P w = .ok b w
  | 0, t, x, y, x', y', b, h, hx, hy, m, w => by cases h
  | n + 1, t, x, y, x', y', b, h, hx, hy, m, w => by
    rw [eqV_succ] at h
    rw [show n + 1 + m = (n + m) + 1 by omega]
    unfold eqStep at h
    split at h <;> try (cases h; done)
    · rename_i fs hl
      rcases eqLay_spec hl with ⟨_, hu⟩ | ⟨h0, _⟩ | ⟨h0, _⟩ | ⟨h0, _⟩ | ⟨h0, _⟩ | ⟨h0, _⟩ | ⟨h0, _⟩ | ⟨h0, _⟩ | ⟨h0, _⟩ <;> try (cases h0; done)
      split at h <;> try (cases h; done)
      injection h with h; subst h
      cases hx; cases hy
      exact run_equalIn_bool w _ t _ _ hu
    · rename_i fs hl
      rcases eqLay_spec hl with ⟨h0, _⟩ | ⟨_, k, hu⟩ | ⟨h0, _⟩ | ⟨h0, _⟩ | ⟨h0, _⟩ | ⟨h0, _⟩ | ⟨h0, _⟩ | ⟨h0, _⟩ | ⟨h0, _⟩ <;> try (cases h0; done)
      split at h <;> try (cases h; done)
      split at h <;> try (cases h; done)
      rename_i hk
      have hk' := of_decide_eq_true hk
      subst hk'
      injection h with h; subst h
      cases hx; cases hy
      rw [eqI_eq]
      exact run_equalIn_int w _ t _ k _ _ hu
    · rename_i fs hl
      rcases eqLay_spec hl with ⟨h0, _⟩ | ⟨h0, _⟩ | ⟨_, hu⟩ | ⟨h0, _⟩ | ⟨h0, _⟩ | ⟨h0, _⟩ | ⟨h0, _⟩ | ⟨h0, _⟩ | ⟨h0, _⟩ <;> try (cases h0; done)
      split at h <;> try (cases h; done)
      injection h with h; subst h
      cases hx; cases hy
      rw [eqL_eq, ← bs_eq, ← bs_eq]
      exact run_equalIn_string w _ t _ _ hu
    · rename_i fs hl
      rcases eqLay_spec hl with ⟨h0, _⟩ | ⟨h0, _⟩ | ⟨h0, _⟩ | ⟨_, e, hu, rfl⟩ | ⟨h0, _⟩ | ⟨h0, _⟩ | ⟨h0, _⟩ | ⟨h0, _⟩ | ⟨h0, _⟩ <;> try (cases h0; done)
      unfold orE at h
      split at h
      · rename_i bb hb2
        injection h with h; subst h
        obtain ⟨p, q, hp, hq, hc⟩ := nil2_some hb2
        obtain ⟨a1, rfl, ha1⟩ := nilP_inv hx hp
        obtain ⟨a2, rfl, ha2⟩ := nilP_inv hy hq
        rcases hc with ⟨rfl, rfl⟩ | ⟨rfl, rfl, rfl⟩ <;> cases a1 <;> cases a2 <;> simp at ha1 ha2 <;> subst_vars <;> simp [Op.equalIn, run_underlying hu]
      · unfold ptrEq at h
        split at h <;> try (cases h; done)
        rename_i i o j p hnil2
        split at h <;> first | (rename_i hne; exact absurd rfl (hne e 0)) | skip
        rename_i ee off hee
        injection hee with hee _; injection hee with hee _; subst hee
        split at h <;> try (cases h; done)
        rename_i bb kk hlay
        split at h <;> try (cases h; done)
        rename_i hij
        have hij' := Nat.eq_of_beq_eq_true hij
        subst hij'
        injection h with h; subst h
        obtain ⟨dd, ii, hdd, hii, hag, hsz⟩ := tyLay_spec hlay
        cases hx with
        | ptr hpx =>
        rename_i B c
        cases hy with
        | ptr hpy =>
        rename_i B2 c2
        rw [hpx] at hpy; injection hpy with hpy; injection hpy with hpy _; subst hpy
        have hz : ¬ ii.size = 0 := by omega
        have hbeq : ((⟨B, o, none⟩ : Addr) == ⟨B, p, none⟩) = Nat.beq o p := by
          rw [Bool.eq_iff_iff]
          simp
        simp [Op.equalIn, run_underlying hu, sizeOf, typeInfo, hii, hz, sameAddr, hbeq]
    · rename_i fs hl
      rcases eqLay_spec hl with ⟨h0, _⟩ | ⟨h0, _⟩ | ⟨h0, _⟩ | ⟨h0, _⟩ | ⟨_, e, hu⟩ | ⟨h0, _⟩ | ⟨h0, _⟩ | ⟨h0, _⟩ | ⟨h0, _⟩ <;> try (cases h0; done)
      obtain ⟨p, q, hp, hq, hc⟩ := nil2_some h
      obtain ⟨a1, l1, k1, rfl, ha1⟩ := nilS_inv hx hp
      obtain ⟨a2, l2, k2, rfl, ha2⟩ := nilS_inv hy hq
      rcases hc with ⟨rfl, rfl⟩ | ⟨rfl, rfl, rfl⟩ <;> cases a1 <;> cases a2 <;> simp at ha1 ha2 <;> subst_vars <;> simp [Op.equalIn, run_underlying hu]
    · rename_i fs hl
      rcases eqLay_spec hl with ⟨h0, _⟩ | ⟨h0, _⟩ | ⟨h0, _⟩ | ⟨h0, _⟩ | ⟨h0, _⟩ | ⟨_, kk, e, hu⟩ | ⟨h0, _⟩ | ⟨h0, _⟩ | ⟨h0, _⟩ <;> try (cases h0; done)
      obtain ⟨p, q, hp, hq, hc⟩ := nil2_some h
      obtain ⟨a1, rfl, ha1⟩ := nilM_inv hx hp
      obtain ⟨a2, rfl, ha2⟩ := nilM_inv hy hq
      rcases hc with ⟨rfl, rfl⟩ | ⟨rfl, rfl, rfl⟩ <;> cases a1 <;> cases a2 <;> simp at ha1 ha2 <;> subst_vars <;> simp [Op.equalIn, run_underlying hu]
    · rename_i fs hl
      rcases eqLay_spec hl with ⟨h0, _⟩ | ⟨h0, _⟩ | ⟨h0, _⟩ | ⟨h0, _⟩ | ⟨h0, _⟩ | ⟨h0, _⟩ | ⟨_, aa, bb, cc, hu⟩ | ⟨h0, _⟩ | ⟨h0, _⟩ <;> try (cases h0; done)
      obtain ⟨p, q, hp, hq, hc⟩ := nil2_some h
      rcases nilF_inv hx hp with ⟨rfl, rfl⟩ | ⟨⟨f1, g1, k1, rfl⟩, rfl⟩ <;> rcases nilF_inv hy hq with ⟨rfl, rfl⟩ | ⟨⟨f2, g2, k2, rfl⟩, rfl⟩ <;> simp at hc <;> subst_vars <;> simp [Op.equalIn, run_underlying hu]
    · rename_i fs hl
      rcases eqLay_spec hl with ⟨h0, _⟩ | ⟨h0, _⟩ | ⟨h0, _⟩ | ⟨h0, _⟩ | ⟨h0, _⟩ | ⟨h0, _⟩ | ⟨h0, _⟩ | ⟨_, ms, hu⟩ | ⟨h0, _⟩ <;> try (cases h0; done)
      obtain ⟨p, q, hp, hq, hc⟩ := nil2_some h
      rcases nilI_inv hx hp with ⟨rfl, rfl⟩ | ⟨⟨f1, g1, rfl⟩, rfl⟩ <;> rcases nilI_inv hy hq with ⟨rfl, rfl⟩ | ⟨⟨f2, g2, rfl⟩, rfl⟩ <;> simp at hc <;> subst_vars <;> simp [Op.equalIn, run_underlying hu]
    · rename_i fs hl
      rcases eqLay_spec hl with ⟨h0, _⟩ | ⟨h0, _⟩ | ⟨h0, _⟩ | ⟨h0, _⟩ | ⟨h0, _⟩ | ⟨h0, _⟩ | ⟨h0, _⟩ | ⟨h0, _⟩ | ⟨_, gs, hu, h1, h2, h3, rfl⟩ <;> try (cases h0; done)
      split at h <;> try (cases h; done)
      cases hx with
      | agg xs xs' hx1 hx2 =>
      cases hy with
      | agg ys ys' hy1 hy2 =>
      rw [run_equalIn_struct w _ t _ _ (by rw [fieldsOf_eq hu]; exact hu) h1, fieldsOf_eq hu]
      simp only [listOf] at h
      clear hl hu h1 h2
      revert h h3
      generalize gs.toList = l
      intro h3 h
      induction l generalizing b with
      | nil => 
        have : true = b := by injection h
        subst this; simp [Op.eqFields]
      | cons f l ih =>
        have h' : (match tyLay P f.type with
          | some (b, sz) => match partL b sz xs f.offset with
            | some x => match partL b sz ys f.offset with
              | some y => match eqV P n f.type x y with
                | some true => eqFs (eqV P n) P xs ys (l.map (fun f => (f.type, f.offset)))
                | some false => some false
                | none => none
              | none => none
            | none => none
          | none => none) = some b := h
        split at h' <;> try (cases h'; done)
        rename_i bb sz ht
        split at h' <;> try (cases h'; done)
        rename_i u hu
        split at h' <;> try (cases h'; done)
        rename_i v hv
        obtain ⟨u', hu1, hu2⟩ := run_part ht ⟨hx1, hx2⟩ hu
        obtain ⟨v', hv1, hv2⟩ := run_part ht ⟨hy1, hy2⟩ hv
        have hn : f.name ≠ "_" := h3 f (by simp)
        split at h'
        · rename_i he
          have hrec := eqV_ok n f.type u v u' v' true he hu1 hv1 m w
          simp only [Op.eqFields, hn, ne_eq, not_false_eq_true, if_true, Sem.run_bind, hu2, hv2, Result.andThen_ok, hrec, Bool.not_true, Bool.false_eq_true, if_false]
          exact ih b (fun g hg => h3 g (by simp [hg])) h'
        · rename_i he
          injection h' with h'; subst h'
          have hrec := eqV_ok n f.type u v u' v' false he hu1 hv1 m w
          simp [Op.eqFields, hn, hu2, hv2, hrec]
        · cases h'
end Go.Ev
namespace Go.Ev
open Go Go.RowKit
set_option linter.unusedVariables false
set_option linter.unusedSimpArgs false

/-! ## a tree that looks at no memory -/
noncomputable def qrun {α : Type} (P : Program) (s : Sem α) : Option α :=
  Sem.rec (motive := fun _ => Option α) (fun a => some a) (fun _ _ _ _ => none) (fun _ _ _ _ _ => none) (fun _ _ _ => none) (fun _ _ _ => none) (fun _ _ _ _ => none) (fun _ _ _ => none) (fun _ _ _ => none) (fun _ _ _ _ => none)
    (fun _ _ _ => none) (fun _ _ _ => none) (fun _ ih => ih P) (fun _ _ ih => ih) (fun _ => none) s
theorem qrun_ok {α : Type} {P : Program} {s : Sem α} {a : α} (h : qrun P s = some a) (w : World) : s.run P w = .ok a w := by
  induction s with
  | pure b => injection h with h; subst h; rfl
  | program k ih => exact ih P h
  | mark m k ih => exact ih h
  | _ => cases h
def isShift : BinOp → Bool | .shl => true | .shr => true | _ => false
def isBits : BinOp → Bool | .and => true | .or => true | .xor => true | .andNot => true | _ => false
noncomputable def rEq (P : Program) (op : BinOp) (t : TypeId) (x y : Value) : Option (Value × Option Nat) :=
  match op with
  | .eql => match eqV P 5 t x y with | some b => some (.bool b, none) | none => none
  | .neq => match eqV P 5 t x y with | some b => some (.bool (not b), none) | none => none
  | _ => none
theorem rEq_spec {P : Program} {op : BinOp} {t : TypeId} {x y : Value} {r : Value × Option Nat} (h : rEq P op t x y = some r) : ∃ b, eqV P 5 t x y = some b ∧ ((op = .eql ∧ r = (.bool b, none)) ∨ (op = .neq ∧ r = (.bool (not b), none))) := by
  unfold rEq at h
  split at h
  · split at h <;> try (cases h; done)
    rename_i b hb
    injection h with h; exact ⟨b, hb, .inl ⟨rfl, h.symm⟩⟩
  · split at h <;> try (cases h; done)
    rename_i b hb
    injection h with h; exact ⟨b, hb, .inr ⟨rfl, h.symm⟩⟩
  · cases h
noncomputable def pl (o : Option Value) : Option (Value × Option Nat) := match o with | some v => (match plain v with | true => some (v, none) | false => none) | none => none
theorem pl_spec {o : Option Value} {r : Value × Option Nat} (h : pl o = some r) : ∃ v, o = some v ∧ plain v = true ∧ r = (v, none) := by
  unfold pl at h
  split at h <;> try (cases h; done)
  rename_i v
  split at h <;> try (cases h; done)
  rename_i hp
  injection h with h; exact ⟨v, rfl, hp, h.symm⟩
def bothNil : Value → Value → Bool | .nilIface, .nilIface => true | _, _ => false
def isC : Operand → Bool | .const _ => true | _ => false
theorem eqGuard_nil {P : Program} {op : BinOp} {t : TypeId} {xo yo : Operand} (h : (or (isC xo) (isC yo)) = true) (w : World) : (eqGuard op t xo yo .nilIface .nilIface).run P w = .ok () w := by
  cases xo <;> cases yo <;> first | (simp [isC] at h; done) | (cases op <;> rfl)
noncomputable def rBin (P : Program) (c : Bool) (op : BinOp) (t : TypeId) (x y : Value) : Option (Value × Option Nat) :=
  match x with
  | .int k a => match y with
    | .int j b => match isShift op with
      | true => pl (qrun P (Op.shift op k a j b))
      | false => match decide (k = j) with
        | true => match isBits op with
          | true => pl (qrun P (Op.intBits op k a b))
          | false => pl (intBin op k a b)
        | false => none
    | _ => none
  | .string a => match y with
    | .string b => pl (strBin op a b)
    | _ => none
  | .nilIface => match or c (not (bothNil x y)) with | true => rEq P op t x y | false => none
  | _ => rEq P op t x y
theorem rBin_ok {P : Program} {φ : Emb} {w : World} {op : BinOp} {t : TypeId} {x y x' y' : Value} (hx : VR φ x x') (hy : VR φ y y') {r : Value × Option Nat} (xo yo : Operand) (h : rBin P (or (isC xo) (isC yo)) op t x y = some r) :
    ROk P φ w (do eqGuard op t xo yo x' y'; binOp op t x' y') r := by
  have main : ∀ v, plain v = true → (∀ w1, (eqGuard op t xo yo x' y').run P w1 = .ok () w1) → (∀ w1, (binOp op t x' y').run P w1 = .ok v w1) → ROk P φ w (do eqGuard op t xo yo x' y'; binOp op t x' y') (v, none) := by
    intro v hv h1 h2
    refine ROk.const (VR.plain hv) fun w1 => ?_
    rw [Sem.run_bind, h1, Result.andThen_ok, h2]
  have eqs : rEq P op t x y = some r → (∀ w1, (eqGuard op t xo yo x' y').run P w1 = .ok () w1) → (binOp .eql t x' y' = (do pure (.bool (← Op.equal t x' y')))) → (binOp .neq t x' y' = (do pure (.bool (!(← Op.equal t x' y'))))) → ROk P φ w (do eqGuard op t xo yo x' y'; binOp op t x' y') r := by
    intro h h1 h2 h3
    obtain ⟨b, hb, ⟨rfl, rfl⟩ | ⟨rfl, rfl⟩⟩ := rEq_spec h
    · refine main _ rfl h1 fun w1 => ?_
      rw [h2, Sem.run_bind, show (Op.equal t x' y').run P w1 = .ok b w1 from eqV_ok 5 t x y x' y' b hb hx hy 9995 w1]; rfl
    · refine main _ rfl h1 fun w1 => ?_
      rw [h3, Sem.run_bind, show (Op.equal t x' y').run P w1 = .ok b w1 from eqV_ok 5 t x y x' y' b hb hx hy 9995 w1]; rfl
  cases hx with
  | int k a =>
    cases hy with
    | int j b =>
      have gd : ∀ w1, (eqGuard op t xo yo (.int k a) (.int j b)).run P w1 = .ok () w1 := fun w1 => by cases op <;> rfl
      simp only [rBin] at h
      split at h
      · rename_i hs
        obtain ⟨v, hq, hp, rfl⟩ := pl_spec h
        refine main v hp gd fun w1 => ?_
        have := qrun_ok hq w1
        cases op <;> simp [isShift] at hs <;> exact this
      · rename_i hs
        split at h <;> try (cases h; done)
        rename_i hk
        have hk' := of_decide_eq_true hk
        subst hk'
        split at h
        · rename_i hb
          obtain ⟨v, hq, hp, rfl⟩ := pl_spec h
          refine main v hp gd fun w1 => ?_
          have := qrun_ok hq w1
          cases op <;> simp [isBits] at hb <;> simpa [binOp] using this
        · obtain ⟨v, hq, hp, rfl⟩ := pl_spec h
          exact main v hp gd fun w1 => run_intBin hq t w1
    | _ => simp [rBin] at h
  | str a =>
    cases hy with
    | str b =>
      simp only [rBin] at h
      obtain ⟨v, hq, hp, rfl⟩ := pl_spec h
      exact main v hp (fun w1 => by cases op <;> rfl) fun w1 => run_strBin hq t w1
    | _ => simp [rBin] at h
  | agg cs cs' h1 h2 =>
    simp only [rBin] at h
    obtain ⟨b, hb, _⟩ := rEq_spec h
    have hl : ∃ fs, eqLay P t = some (4, fs) ∧ ∃ ds, y = .agg ds := by
      rw [eqV_succ] at hb
      unfold eqStep at hb
      split at hb <;> try (simp [nilP, nilS, nilM, nilF, nilI, nil2, orE, ptrEq] at hb; done)
      rename_i fs hfs
      cases y <;> simp at hb
      exact ⟨fs, hfs, _, rfl⟩
    obtain ⟨fs, hfs, ds, rfl⟩ := hl
    cases hy with
    | agg ds ds' k1 k2 =>
    have hg : P.eqGuardType P.depth t = false := by
      rcases eqLay_spec hfs with ⟨h0, _⟩ | ⟨h0, _⟩ | ⟨h0, _⟩ | ⟨h0, _⟩ | ⟨h0, _⟩ | ⟨h0, _⟩ | ⟨h0, _⟩ | ⟨h0, _⟩ | ⟨_, gs, hu, h1, h2, h3, rfl⟩ <;> first | (cases h0; done) | exact h2
    exact eqs h (fun w1 => run_eqGuard_agg w1 op t xo yo _ _ hg) (by simp [binOp]) (by simp [binOp])
  | nilIface =>
    simp only [rBin] at h
    split at h <;> try (cases h; done)
    rename_i hcn
    refine eqs h (fun w1 => ?_) (by cases y' <;> rfl) (by cases y' <;> rfl)
    cases hy <;> first
      | (cases op <;> rfl)
      | (simp only [bothNil, Bool.not_true, Bool.or_false] at hcn
         exact eqGuard_nil hcn w1)
  | _ => exact eqs h (fun w1 => by cases op <;> rfl) (by cases y' <;> rfl) (by cases y' <;> rfl)
/-! ## operators on one value -/
noncomputable def rUn (P : Program) (op : UnOp) (x : Value) : Option (Value × Option Nat) :=
  match plain x with
  | true => pl (qrun P (Op.unary op x))
  | false => none
theorem VR.plain1_eq {φ : Emb} {v v' : Value} (h : VR φ v v') (hp : Ev.plain1 v = true) : v' = v := by
  cases h <;> first | rfl | (simp [Ev.plain1] at hp)
theorem rUn_ok {P : Program} {φ : Emb} {w : World} {op : UnOp} {x x' : Value} (hx : VR φ x x') {r : Value × Option Nat} (h : rUn P op x = some r) : ROk P φ w (Op.unary op x') r := by
  unfold rUn at h
  split at h <;> try (cases h; done)
  obtain ⟨v, hq, hp, rfl⟩ := pl_spec h
  have hx' : x' = x := by
    cases hx <;> first | rfl | (simp [Op.unary, stuck] at hq; cases op <;> cases hq)
  subst hx'
  exact ROk.const (VR.plain hp) fun w1 => qrun_ok hq w1
end Go.Ev
namespace Go.Ev
open Go Go.RowKit
set_option linter.unusedVariables false
set_option linter.unusedSimpArgs false

/-! ## a segment written into cells -/
def segL (l : List Value) (o : Nat) (vs : List Value) : List Value := l.take o ++ vs ++ l.drop (o + vs.length)
theorem segL_length {l vs : List Value} {o : Nat} (h : o + vs.length ≤ l.length) : (segL l o vs).length = l.length := by simp [segL]; omega
theorem segL_get {l vs : List Value} {o : Nat} (h : o + vs.length ≤ l.length) (j : Nat) : (segL l o vs)[j]? = if j < o then l[j]? else if j < o + vs.length then vs[j - o]? else l[j]? := by
  unfold segL
  by_cases h1 : j < o
  · rw [if_pos h1, List.append_assoc, List.getElem?_append_left (by simp; omega), List.getElem?_take, if_pos h1]
  · rw [if_neg h1]
    have hlen : (l.take o).length = o := by simp; omega
    by_cases h2 : j < o + vs.length
    · rw [if_pos h2, List.append_assoc, List.getElem?_append_right (by omega), hlen, List.getElem?_append_left (by omega)]
    · rw [if_neg h2, List.getElem?_append_right (by simp; omega), List.getElem?_drop]
      congr 1
      simp; omega
theorem VRs.seg {φ : Emb} {l l' vs vs' : List Value} (h : VRs φ l l') (k : VRs φ vs vs') (o : Nat) : VRs φ (segL l o vs) (segL l' o vs') := by
  unfold segL
  rw [← k.1]
  exact ((h.take o).append k).append (h.drop _)
/-- The model's writing of a part, in place. -/
theorem fold_seg : ∀ (vs : List Value) (k : Nat) (off : Nat) (cells : Array Value), off + k + vs.length ≤ cells.size →
    (vs.zipIdx k).foldl (fun cs (p : Value × Nat) => cs.setIfInBounds (off + p.2) p.1) cells = ⟨segL cells.toList (off + k) vs⟩
  | [], k, off, cells, h => by simp [segL]
  | v :: vs, k, off, cells, h => by
    simp only [List.length_cons] at h
    rw [List.zipIdx_cons, List.foldl_cons, fold_seg vs (k + 1) off _ (by simp; omega)]
    congr 1
    have e := list_seg_step cells.toList (off + k) v vs (by simp; omega)
    unfold segL
    simpa [Array.toList_setIfInBounds, Nat.add_assoc] using e
/-- As segL, as it is computed. -/
noncomputable def segC (l : List Value) (o : Nat) (vs : List Value) : List Value :=
  Nat.rec (motive := fun _ => List Value → List Value) (fun l => List.rec (motive := fun _ => List Value → List Value) (fun l => l) (fun v _ ih l => v :: List.casesOn l (ih []) (fun _ r => ih r)) vs l)
    (fun _ ih l => List.casesOn l [] (fun v r => v :: ih r)) o l
theorem segC_zero : ∀ (vs l : List Value), vs.length ≤ l.length → segC l 0 vs = segL l 0 vs
  | [], l, _ => by show l = _; simp [segL]
  | v :: vs, [], h => by simp at h
  | v :: vs, x :: l, h => by
    show v :: segC l 0 vs = _
    rw [segC_zero vs l (by simpa using h)]
    simp [segL]
theorem segC_eq : ∀ (o : Nat) (vs l : List Value), o + vs.length ≤ l.length → segC l o vs = segL l o vs
  | 0, vs, l, h => segC_zero vs l (by omega)
  | o + 1, vs, [], h => by simp at h
  | o + 1, vs, x :: l, h => by
    show x :: segC l o vs = _
    rw [segC_eq o vs l (by simp at h; omega)]
    simp [segL, Nat.succ_add]
noncomputable def lenV (l : List Value) : Nat := List.rec (motive := fun _ => Nat) 0 (fun _ _ ih => Nat.succ ih) l
theorem lenV_eq : ∀ l : List Value, lenV l = l.length
  | [] => rfl
  | _ :: l => by show Nat.succ (lenV l) = _; rw [lenV_eq l]; rfl
noncomputable def cellsOf (v : Value) : List Value := match v with | .agg cs => listOf cs | v => [v]
theorem cellsOf_eq (v : Value) : v.cells.toList = cellsOf v := by cases v <;> rfl
theorem VR.cells {φ : Emb} {v v' : Value} (h : VR φ v v') : VRs φ (cellsOf v) (cellsOf v') := by
  cases h with
  | agg cs cs' h1 h2 => exact ⟨h1, h2⟩
  | bool b => exact .cons (.bool b) (.nil φ)
  | int k n => exact .cons (.int k n) (.nil φ)
  | str s => exact .cons (.str s) (.nil φ)
  | ptrNil => exact .cons .ptrNil (.nil φ)
  | ptr hp => exact .cons (.ptr hp) (.nil φ)
  | slNil l k => exact .cons (.slNil l k) (.nil φ)
  | sl l k hk hp => exact .cons (.sl l k hk hp) (.nil φ)
  | slG l hp hl => exact .cons (.slG l hp hl) (.nil φ)
  | slO l c' hp hl ho => exact .cons (.slO l c' hp hl ho) (.nil φ)
  | slE a a' c' => exact .cons (.slE a a' c') (.nil φ)
  | nilFunc => exact .cons .nilFunc (.nil φ)
  | nilIface => exact .cons .nilIface (.nil φ)
  | func f fs gs fs' gs' h1 h2 h3 h4 => exact .cons (.func f fs gs fs' gs' h1 h2 h3 h4) (.nil φ)
  | iface t h => exact .cons (.iface t h) (.nil φ)
  | tuple cs cs' h1 h2 => exact .cons (.tuple cs cs' h1 h2) (.nil φ)
  | mapNil => exact .cons .mapNil (.nil φ)
  | map hp => exact .cons (.map hp) (.nil φ)

/-! ## build -/
noncomputable def fillC (place : Nat → Option (Nat × Nat)) (parts : List (Nat × Value)) : List Value → Option (List Value) :=
  List.rec (motive := fun _ => List Value → Option (List Value)) (fun l => some l)
    (fun p _ ih l => match place p.1 with
      | some (off, sz) => match and (Nat.beq (lenV (cellsOf p.2)) sz) (Nat.ble (Nat.add off sz) (lenV l)) with
        | true => ih (segC l off (cellsOf p.2))
        | false => none
      | none => none) parts
/-- Parts that are read alike. -/
inductive PRs (φ : Emb) : List (Nat × Value) → List (Nat × Value) → Prop
  | nil : PRs φ [] []
  | cons {i : Nat} {v v' : Value} {l l' : List (Nat × Value)} : VR φ v v' → PRs φ l l' → PRs φ ((i, v) :: l) ((i, v') :: l')
theorem fillC_ok {φ : Emb} {place : Nat → Option (Nat × Nat)} : ∀ {ps ps' : List (Nat × Value)} {l l' r : List Value}, fillC place ps l = some r → PRs φ ps ps' → VRs φ l l' →
    ∃ r', Instr.fill place ⟨l'⟩ ps' = some ⟨r'⟩ ∧ VRs φ r r'
  | [], _, l, l', r, h, .nil, hl => by
    have : l = r := by injection h
    subst this; exact ⟨l', rfl, hl⟩
  | (i, v) :: ps, _, l, l', r, h, .cons (v' := v') (l' := ps') hv hps, hl => by
    have h' : (match place i with
      | some (off, sz) => match and (Nat.beq (lenV (cellsOf v)) sz) (Nat.ble (Nat.add off sz) (lenV l)) with
        | true => fillC place ps (segC l off (cellsOf v))
        | false => none
      | none => none) = some r := h
    split at h' <;> try (cases h'; done)
    rename_i off sz hp
    split at h' <;> try (cases h'; done)
    rename_i hc
    simp only [Bool.and_eq_true] at hc
    have c1 := Nat.eq_of_beq_eq_true hc.1
    have c2 := Nat.le_of_ble_eq_true hc.2
    rw [lenV_eq] at c1 c2
    have hlen := hv.cells.1
    have hl1 := hl.1
    have c2' : off + sz ≤ l.length := c2
    rw [segC_eq _ _ _ (by omega)] at h'
    obtain ⟨r', h1, h2⟩ := fillC_ok h' hps (hl.seg hv.cells off)
    refine ⟨r', ?_, h2⟩
    have hsz : v'.cells.size = sz := by rw [← Array.length_toList, cellsOf_eq]; omega
    simp only [Instr.fill, hp, hsz, bne_self_eq_false, Bool.false_or, decide_eq_true_eq, ne_eq, not_true_eq_false, List.size_toArray]
    rw [if_neg (by simp; omega)]
    have hf : (v'.cells.zipIdx.foldl (fun cs (x : Value × Nat) => cs.setIfInBounds (off + x.2) x.1) (⟨l'⟩ : Array Value)) = ⟨segL l' off (cellsOf v')⟩ := by
      have := fold_seg (cellsOf v') 0 off ⟨l'⟩ (by simp; omega)
      rw [← cellsOf_eq] at this
      rw [← Array.foldl_toList, Array.toList_zipIdx]
      simpa [cellsOf_eq] using this
    rw [← h1]
    congr 1
/-- The zero cells of a type and the places of its parts. -/
def bldLay (P : Program) (t : TypeId) : Option (List Value × (List (Nat × Nat) ⊕ Nat)) :=
  match P.info? t with
  | some it => match it.zero with
    | some z => match P.underlying t with
      | some (.array _ e) => match P.info? e with | some ie => some (z.cells.toList, .inr ie.size) | none => none
      | some (.struct fs) => match fs.toList.mapM (fun f => (P.info? f.type).map fun i => (f.offset, i.size)) with | some pl => some (z.cells.toList, .inl pl) | none => none
      | _ => none
    | none => none
  | none => none
noncomputable def nthP (l : List (Nat × Nat)) : Nat → Option (Nat × Nat) :=
  List.rec (motive := fun _ => Nat → Option (Nat × Nat)) (fun _ => none) (fun v _ ih n => Nat.casesOn n (some v) (fun m => ih m)) l
theorem nthP_eq : ∀ (l : List (Nat × Nat)) (n : Nat), nthP l n = l[n]?
  | [], n => by cases n <;> rfl
  | v :: l, 0 => rfl
  | v :: l, n + 1 => by
    show nthP l n = _
    rw [nthP_eq l n]; simp
noncomputable def rBuild (P : Program) (t : TypeId) (ps : List (Nat × Value)) : Option (Value × Option Nat) :=
  match bldLay P t with
  | some (z, .inl pl) => match plainL z with
    | true => match fillC (nthP pl) ps z with | some l => some (.agg ⟨l⟩, none) | none => none
    | false => none
  | some (z, .inr sz) => match plainL z with
    | true => match fillC (fun i => some (Nat.mul i sz, sz)) ps z with | some l => some (.agg ⟨l⟩, none) | none => none
    | false => none
  | none => none
theorem rBuild_ok {P : Program} {φ : Emb} {w : World} {t : TypeId} {ps ps' : List (Nat × Value)} (hp : PRs φ ps ps') {r : Value × Option Nat} (h : rBuild P t ps = some r) : ROk P φ w (Instr.build t ⟨ps'⟩) r := by
  unfold rBuild at h
  split at h <;> try (cases h; done)
  · rename_i z pl hb
    split at h <;> try (cases h; done)
    rename_i hz
    split at h <;> try (cases h; done)
    rename_i l hl
    injection h with h; subst h
    obtain ⟨r', h1, h2⟩ := fillC_ok hl hp (VRs.plain hz)
    refine ROk.const (.agg _ _ h2.1 h2.2) fun w1 => run_build w1 t ⟨ps'⟩ ⟨r'⟩ ?_
    unfold bldLay at hb
    split at hb <;> try (cases hb; done)
    rename_i it hi
    split at hb <;> try (cases hb; done)
    rename_i zv hzv
    split at hb <;> try (cases hb; done)
    · split at hb <;> simp at hb
    · rename_i fs hu
      split at hb <;> try (cases hb; done)
      rename_i pl' hpl
      simp at hb
      obtain ⟨rfl, rfl⟩ := hb
      simp only [Program.built, hi, hu, hzv, hpl]
      rw [← h1]
      congr 1
      funext i; simp [nthP_eq]
  · rename_i z sz hb
    split at h <;> try (cases h; done)
    rename_i hz
    split at h <;> try (cases h; done)
    rename_i l hl
    injection h with h; subst h
    obtain ⟨r', h1, h2⟩ := fillC_ok hl hp (VRs.plain hz)
    refine ROk.const (.agg _ _ h2.1 h2.2) fun w1 => run_build w1 t ⟨ps'⟩ ⟨r'⟩ ?_
    unfold bldLay at hb
    split at hb <;> try (cases hb; done)
    rename_i it hi
    split at hb <;> try (cases hb; done)
    rename_i zv hzv
    split at hb <;> try (cases hb; done)
    · rename_i n e hu
      split at hb <;> try (cases hb; done)
      rename_i ie hie
      simp at hb
      obtain ⟨rfl, rfl⟩ := hb
      simp only [Program.built, hi, hu, hzv, hie]
      exact h1
    · split at hb <;> simp at hb
end Go.Ev
