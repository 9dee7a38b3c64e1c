import Derived.Test.YtojmckbpafkagaaGreatDoorEA
import Derived.Laws.MakeOwn
import Derived.Laws.OwnMore
import Derived.Test.YtojmckbpafkagaaGreatDoorWIn
namespace Go.Ev
open Go Go.RowKit
set_option linter.unusedVariables false
set_option linter.unusedSimpArgs false

/-- Where an abstract block lies: its block, and how many elements a row that append has made can bear. -/
abbrev Emb := List (Nat × Nat)
/-- A capacity that is not known; and that of a slice of nothing, whose address is not known either. -/
def unk : Nat := 18446744073709551616
def unk2 : Nat := 18446744073709551617

inductive VR (φ : Emb) : Value → Value → Prop
  | bool (b : Bool) : VR φ (.bool b) (.bool b)
  | int (k : IntKind) (n : Int) : VR φ (.int k n) (.int k n)
  | str (s : ByteArray) : VR φ (.string s) (.string s)
  | ptrNil : VR φ (.pointer none) (.pointer none)
  | ptr {i o B c : Nat} : φ[i]? = some (B, c) → VR φ (.pointer (some ⟨i, o, none⟩)) (.pointer (some ⟨B, o, none⟩))
  | slNil (l k : Nat) : VR φ (.slice none l k) (.slice none l k)
  | sl {i o B c : Nat} (l k : Nat) : k < unk → φ[i]? = some (B, c) → VR φ (.slice (some ⟨i, o, none⟩) l k) (.slice (some ⟨B, o, none⟩) l k)
  | slG {i B c : Nat} (l : Nat) : φ[i]? = some (B, c) → l ≤ c → VR φ (.slice (some ⟨i, 0, none⟩) l unk) (.slice (some ⟨B, 0, none⟩) l c)
  | slO {i o B c : Nat} (l c' : Nat) : φ[i]? = some (B, c) → l ≤ c' → 0 < o → VR φ (.slice (some ⟨i, o, none⟩) l unk) (.slice (some ⟨B, o, none⟩) l c')
  | slE (a a' : Addr) (c' : Nat) : VR φ (.slice (some a) 0 unk2) (.slice (some a') 0 c')
  | nilFunc : VR φ .nilFunc .nilFunc
  | nilIface : VR φ .nilIface .nilIface
  | func (f : FuncId) (fs gs fs' gs' : List Value) : fs.length = fs'.length → gs.length = gs'.length → (∀ (j : Nat) v v', fs[j]? = some v → fs'[j]? = some v' → VR φ v v') →
      (∀ (j : Nat) v v', gs[j]? = some v → gs'[j]? = some v' → VR φ v v') → VR φ (.func (.func f) ⟨fs⟩ ⟨gs⟩) (.func (.func f) ⟨fs'⟩ ⟨gs'⟩)
  | iface (t : TypeId) {v v' : Value} : VR φ v v' → VR φ (.iface t v) (.iface t v')
  | agg (cs cs' : List Value) : cs.length = cs'.length → (∀ (j : Nat) v v', cs[j]? = some v → cs'[j]? = some v' → VR φ v v') → VR φ (.agg ⟨cs⟩) (.agg ⟨cs'⟩)
  | tuple (cs cs' : List Value) : cs.length = cs'.length → (∀ (j : Nat) v v', cs[j]? = some v → cs'[j]? = some v' → VR φ v v') → VR φ (.tuple ⟨cs⟩) (.tuple ⟨cs'⟩)
  | mapNil : VR φ (.map none) (.map none)
  | map {i B c : Nat} : φ[i]? = some (B, c) → VR φ (.map (some i)) (.map (some B))

/-- Lists that are read alike. -/
def VRs (φ : Emb) (l l' : List Value) : Prop := l.length = l'.length ∧ ∀ (j : Nat) v v', l[j]? = some v → l'[j]? = some v' → VR φ v v'

/-- φ' says no less than φ. -/
def Ext (φ φ' : Emb) : Prop := ∃ t, φ' = φ ++ t
theorem Ext.refl (φ : Emb) : Ext φ φ := ⟨[], by simp⟩
theorem Ext.trans {a b c : Emb} (h : Ext a b) (k : Ext b c) : Ext a c := by
  obtain ⟨t, rfl⟩ := h; obtain ⟨u, rfl⟩ := k; exact ⟨t ++ u, by simp⟩
theorem Ext.get {φ φ' : Emb} (h : Ext φ φ') {i : Nat} {x : Nat × Nat} (hx : φ[i]? = some x) : φ'[i]? = some x := by
  obtain ⟨t, rfl⟩ := h
  rw [List.getElem?_append_left (List.getElem?_eq_some_iff.1 hx).1]; exact hx
theorem Ext.old {φ φ' : Emb} (h : Ext φ φ') {i : Nat} (hi : i < φ.length) : φ'[i]? = φ[i]? := by
  obtain ⟨t, rfl⟩ := h
  rw [List.getElem?_append_left hi]
theorem Ext.len {φ φ' : Emb} (h : Ext φ φ') : φ.length ≤ φ'.length := by obtain ⟨t, rfl⟩ := h; simp
theorem Ext.push (φ : Emb) (x : Nat × Nat) : Ext φ (φ ++ [x]) := ⟨[x], rfl⟩

theorem VR.ext {φ φ' : Emb} (h : Ext φ φ') {v v' : Value} (hv : VR φ v v') : VR φ' v v' := by
  induction hv with
  | bool b => exact .bool b
  | int k n => exact .int k n
  | str s => exact .str s
  | ptrNil => exact .ptrNil
  | ptr hi => exact .ptr (h.get hi)
  | slNil l k => exact .slNil l k
  | sl l k hk hi => exact .sl l k hk (h.get hi)
  | slG l hi hl => exact .slG l (h.get hi) hl
  | slO l c' hi hl ho => exact .slO l c' (h.get hi) hl ho
  | slE a a' c' => exact .slE a a' c'
  | nilFunc => exact .nilFunc
  | nilIface => exact .nilIface
  | func f fs gs fs' gs' h1 h2 _ _ ih1 ih2 => exact .func f fs gs fs' gs' h1 h2 ih1 ih2
  | iface t _ ih => exact .iface t ih
  | agg cs cs' h1 _ ih => exact .agg cs cs' h1 ih
  | tuple cs cs' h1 _ ih => exact .tuple cs cs' h1 ih
  | mapNil => exact .mapNil
  | map hi => exact .map (h.get hi)
theorem VRs.ext {φ φ' : Emb} (h : Ext φ φ') {l l' : List Value} (hv : VRs φ l l') : VRs φ' l l' := ⟨hv.1, fun j v v' h1 h2 => (hv.2 j v v' h1 h2).ext h⟩
theorem VRs.nil (φ : Emb) : VRs φ [] [] := ⟨rfl, by simp⟩
theorem VRs.cons {φ : Emb} {v v' : Value} {l l' : List Value} (h : VR φ v v') (hl : VRs φ l l') : VRs φ (v :: l) (v' :: l') :=
  ⟨by simp [hl.1], fun j u u' h1 h2 => by
    cases j with
    | zero => simp at h1 h2; subst h1; subst h2; exact h
    | succ j => exact hl.2 j u u' (by simpa using h1) (by simpa using h2)⟩
theorem VRs.get {φ : Emb} {l l' : List Value} (hl : VRs φ l l') {j : Nat} {v : Value} (h : l[j]? = some v) : ∃ v', l'[j]? = some v' ∧ VR φ v v' := by
  have hj : j < l'.length := by rw [← hl.1]; exact (List.getElem?_eq_some_iff.1 h).1
  exact ⟨l'[j], by simp [hj], hl.2 j v _ h (by simp [hj])⟩
theorem VRs.inv_cons {φ : Emb} {v : Value} {l l' : List Value} (h : VRs φ (v :: l) l') : ∃ v' r, l' = v' :: r ∧ VR φ v v' ∧ VRs φ l r := by
  cases l' with
  | nil => have := h.1; simp at this
  | cons v' r => exact ⟨v', r, rfl, h.2 0 v v' rfl rfl, by have := h.1; simpa using this, fun j a b h1 h2 => h.2 (j + 1) a b (by simpa using h1) (by simpa using h2)⟩
theorem VRs.inv_nil {φ : Emb} {l' : List Value} (h : VRs φ [] l') : l' = [] := by
  have := h.1; simpa using this.symm
theorem VRs.append {φ : Emb} {a a' b b' : List Value} (h : VRs φ a a') (k : VRs φ b b') : VRs φ (a ++ b) (a' ++ b') := by
  refine ⟨by simp [h.1, k.1], fun j v v' h1 h2 => ?_⟩
  by_cases hj : j < a.length
  · rw [List.getElem?_append_left hj] at h1
    rw [List.getElem?_append_left (h.1 ▸ hj)] at h2
    exact h.2 j v v' h1 h2
  · rw [List.getElem?_append_right (by omega)] at h1
    rw [List.getElem?_append_right (by have := h.1; omega), ← h.1] at h2
    exact k.2 _ v v' h1 h2

/-! ## abstract blocks -/
inductive ABlk where
  | dead
  /-- n cells; sz = 0: these are all; else: a row that append has made, with sz cells an element. -/
  | row (ver : Nat) (elem : TypeId) (sz n : Nat) (cs : Tr Value)
  | iter (ver : Nat) (s : ByteArray) (pos : Nat)
  | map (ver : Nat) (es : List (Value × Value × Nat)) (clock : Nat)
  /-- cells that are only read: a variable of a package. -/
  | ro (n : Nat) (cs : Tr Value)
def ABlk.ver : ABlk → Nat | .ro .. => 0 | .dead => 0 | .row v .. => v | .iter v .. => v | .map v .. => v
def ABlk.live : ABlk → Prop | .dead => False | _ => True
def isRo : Option ABlk → Bool | some (.ro ..) => true | _ => false
theorem isRo_inv {o : Option ABlk} (h : isRo o = true) : ∃ n cs, o = some (.ro n cs) := by
  cases o with
  | none => cases h
  | some b => cases b <;> first | (cases h; done) | exact ⟨_, _, rfl⟩
/-- How many variables of packages the start lays. -/
def gN : Nat := 12
structure Heap where
  next : Nat
  clock : Nat
  blks : Tr ABlk

/-- What a block of the abstract heap says of the block that it stands for. -/
def BR (φ : Emb) (c : Nat) : ABlk → Option Obj → Prop
  | .dead, _ => True
  | .ro n cs, o => n = 0 ∨ ∃ (cur : Array Value) (e : TypeId) (fr : Nat × Nat), o = some (.cells cur e fr) ∧ ∀ (j : Nat) v, j < n → cs.get j = some v → ∃ v', cur[j]? = some v' ∧ VR φ v v'
  | .row _ e sz n cs, o => ∃ (cur : Array Value) (fr : Nat × Nat), o = some (.cells cur e fr) ∧ (∀ j, j < cur.size → ¬ (fr.1 ≤ j ∧ (j < fr.2 ∨ fr.2 < fr.1))) ∧ (if sz = 0 then cur.size = n else cur.size = c * sz ∧ c ≤ maxLen ∧ n ≤ c * sz) ∧
      ∀ (j : Nat) v, j < n → cs.get j = some v → ∃ v', cur[j]? = some v' ∧ VR φ v v'
  | .iter _ s pos, o => o = some (.stringIter s pos)
  | .map _ es clock, o => ∃ es' : List MapEntry, o = some (.map ⟨es'⟩ clock) ∧ es.length = es'.length ∧ ∀ (j : Nat) k v b e, es[j]? = some (k, v, b) → es'[j]? = some e → VR φ k e.key ∧ VR φ v e.val ∧ e.born = b
theorem BR.ext {φ φ' : Emb} (h : Ext φ φ') {c : Nat} {b : ABlk} {o : Option Obj} (hb : BR φ c b o) : BR φ' c b o := by
  cases b with
  | dead => trivial
  | ro n cs =>
    rcases hb with h0 | ⟨cur, e, fr, h1, h3⟩
    · exact .inl h0
    · exact .inr ⟨cur, e, fr, h1, fun j v hj hv => let ⟨v', h4, h5⟩ := h3 j v hj hv; ⟨v', h4, h5.ext h⟩⟩
  | row v e sz n cs =>
    obtain ⟨cur, fr, h1, hf, h2, h3⟩ := hb
    exact ⟨cur, fr, h1, hf, h2, fun j v hj hv => let ⟨v', h4, h5⟩ := h3 j v hj hv; ⟨v', h4, h5.ext h⟩⟩
  | iter v s pos => exact hb
  | map v es clock =>
    obtain ⟨es', h1, h2, h3⟩ := hb
    exact ⟨es', h1, h2, fun j k v b e h4 h5 => let ⟨h6, h7, h8⟩ := h3 j k v b e h4 h5; ⟨h6.ext h, h7.ext h, h8⟩⟩


/-- The variables of packages that are known (at their places; [] : nothing is said). -/
def gs : List (List Value) := [[], [], [.int .u8 36, .int .u8 43, .int .u8 45], [.int .u8 0, .int .u8 0, .int .u8 0, .int .u8 0, .int .u8 0, .int .u8 0, .int .u8 0, .int .u8 0, .int .u8 0, .int .u8 1, .int .u8 1, .int .u8 1, .int .u8 1, .int .u8 1, .int .u8 0, .int .u8 0, .int .u8 0, .int .u8 0, .int .u8 0, .int .u8 0, .int .u8 0, .int .u8 0, .int .u8 0, .int .u8 0, .int .u8 0, .int .u8 0, .int .u8 0, .int .u8 0, .int .u8 0, .int .u8 0, .int .u8 0, .int .u8 0, .int .u8 1, .int .u8 0, .int .u8 0, .int .u8 0, .int .u8 0, .int .u8 0, .int .u8 0, .int .u8 0, .int .u8 0, .int .u8 0, .int .u8 0, .int .u8 0, .int .u8 0, .int .u8 0, .int .u8 0, .int .u8 0, .int .u8 0, .int .u8 0, .int .u8 0, .int .u8 0, .int .u8 0, .int .u8 0, .int .u8 0, .int .u8 0, .int .u8 0, .int .u8 0, .int .u8 0, .int .u8 0, .int .u8 0, .int .u8 0, .int .u8 0, .int .u8 0, .int .u8 0, .int .u8 0, .int .u8 0, .int .u8 0, .int .u8 0, .int .u8 0, .int .u8 0, .int .u8 0, .int .u8 0, .int .u8 0, .int .u8 0, .int .u8 0, .int .u8 0, .int .u8 0, .int .u8 0, .int .u8 0, .int .u8 0, .int .u8 0, .int .u8 0, .int .u8 0, .int .u8 0, .int .u8 0, .int .u8 0, .int .u8 0, .int .u8 0, .int .u8 0, .int .u8 0, .int .u8 0, .int .u8 0, .int .u8 0, .int .u8 0, .int .u8 0, .int .u8 0, .int .u8 0, .int .u8 0, .int .u8 0, .int .u8 0, .int .u8 0, .int .u8 0, .int .u8 0, .int .u8 0, .int .u8 0, .int .u8 0, .int .u8 0, .int .u8 0, .int .u8 0, .int .u8 0, .int .u8 0, .int .u8 0, .int .u8 0, .int .u8 0, .int .u8 0, .int .u8 0, .int .u8 0, .int .u8 0, .int .u8 0, .int .u8 0, .int .u8 0, .int .u8 0, .int .u8 0, .int .u8 0, .int .u8 0, .int .u8 0, .int .u8 0, .int .u8 0, .int .u8 0, .int .u8 0, .int .u8 0, .int .u8 0, .int .u8 0, .int .u8 0, .int .u8 0, .int .u8 0, .int .u8 0, .int .u8 0, .int .u8 0, .int .u8 0, .int .u8 0, .int .u8 0, .int .u8 0, .int .u8 0, .int .u8 0, .int .u8 0, .int .u8 0, .int .u8 0, .int .u8 0, .int .u8 0, .int .u8 0, .int .u8 0, .int .u8 0, .int .u8 0, .int .u8 0, .int .u8 0, .int .u8 0, .int .u8 0, .int .u8 0, .int .u8 0, .int .u8 0, .int .u8 0, .int .u8 0, .int .u8 0, .int .u8 0, .int .u8 0, .int .u8 0, .int .u8 0, .int .u8 0, .int .u8 0, .int .u8 0, .int .u8 0, .int .u8 0, .int .u8 0, .int .u8 0, .int .u8 0, .int .u8 0, .int .u8 0, .int .u8 0, .int .u8 0, .int .u8 0, .int .u8 0, .int .u8 0, .int .u8 0, .int .u8 0, .int .u8 0, .int .u8 0, .int .u8 0, .int .u8 0, .int .u8 0, .int .u8 0, .int .u8 0, .int .u8 0, .int .u8 0, .int .u8 0, .int .u8 0, .int .u8 0, .int .u8 0, .int .u8 0, .int .u8 0, .int .u8 0, .int .u8 0, .int .u8 0, .int .u8 0, .int .u8 0, .int .u8 0, .int .u8 0, .int .u8 0, .int .u8 0, .int .u8 0, .int .u8 0, .int .u8 0, .int .u8 0, .int .u8 0, .int .u8 0, .int .u8 0, .int .u8 0, .int .u8 0, .int .u8 0, .int .u8 0, .int .u8 0, .int .u8 0, .int .u8 0, .int .u8 0, .int .u8 0, .int .u8 0, .int .u8 0, .int .u8 0, .int .u8 0, .int .u8 0, .int .u8 0, .int .u8 0, .int .u8 0, .int .u8 0, .int .u8 0, .int .u8 0, .int .u8 0, .int .u8 0, .int .u8 0, .int .u8 0, .int .u8 0, .int .u8 0, .int .u8 0, .int .u8 0, .int .u8 0, .int .u8 0, .int .u8 0, .int .u8 0, .int .u8 0, .int .u8 0, .int .u8 0, .int .u8 0, .int .u8 0, .int .u8 0, .int .u8 0], [], [], [], [], [], [], [], []]
def LaidIn (w : World) : Prop := gs.length ≤ w.heap.size ∧ ∀ (g : Nat) (l : List Value), gs[g]? = some l → l ≠ [] → ∃ (cur : Array Value) (e : TypeId) (fr : Nat × Nat), w.heap[g]? = some (.cells cur e fr) ∧ ∀ (j : Nat) v, l[j]? = some v → cur[j]? = some v
theorem LaidIn.below {w w' : World} (h : LaidIn w) (hb : Below w.heap.size w w') : LaidIn w' :=
  ⟨Nat.le_trans h.1 hb.size, fun g l hg hl => by
    have hlt : g < w.heap.size := Nat.lt_of_lt_of_le (List.getElem?_eq_some_iff.1 hg).1 h.1
    rw [hb.block g hlt]; exact h.2 g l hg hl⟩
def J (w : World) : Prop := Go.Proofs.YtojmckbpafkagaaGreatDoor.Env w ∧ LaidIn w
theorem J.below {w w' : World} (h : J w) (hb : Below w.heap.size w w') : J w' := ⟨h.1.below hb, h.2.below hb⟩
structure Bas where
  n : Nat
  w0 : World
  sz : w0.heap.size = n
  j : J w0
structure HR (bs : Bas) (φ : Emb) (H : Heap) (w : World) : Prop where
  len : φ.length = H.next
  ver : ∀ (i : Nat) (b : ABlk), H.blks.get i = some b → b.ver ≤ H.clock ∧ i < H.next
  sep : ∀ (i j : Nat) (bi bj : ABlk) (B c d : Nat), H.blks.get i = some bi → H.blks.get j = some bj → bi.live → bj.live → φ[i]? = some (B, c) → φ[j]? = some (B, d) → i = j
  blk : ∀ (i : Nat) (b : ABlk) (B c : Nat), H.blks.get i = some b → φ[i]? = some (B, c) → BR φ c b w.heap[B]?
  rng : ∀ (i B c : Nat), φ[i]? = some (B, c) → (isRo (H.blks.get i) = false → bs.n ≤ B) ∧ B < w.heap.size
  base : bs.n ≤ w.heap.size
  gl : ∀ (g : Nat), g < gN → ∃ c, φ[g]? = some (g, c)
  inv : Below bs.n bs.w0 w

/-- What has not turned between two worlds. -/
structure FR (φ φ' : Emb) (H H' : Heap) (w w' : World) : Prop where
  os : w'.os = w.os
  tape : w'.tape = w.tape
  output : w'.output = w.output
  size : w.heap.size ≤ w'.heap.size
  clock : H.clock ≤ H'.clock
  old : ∀ (B : Nat), B < w.heap.size → (∀ (i c : Nat), φ[i]? ≠ some (B, c)) → w'.heap[B]? = w.heap[B]?
  fresh : ∀ (i B c : Nat), φ'[i]? = some (B, c) → i < φ.length ∨ w.heap.size ≤ B ∨ ∃ (j d : Nat), φ[j]? = some (B, d)
  clean : ∀ (i B c : Nat) (b : ABlk), φ[i]? = some (B, c) → H'.blks.get i = some b → b.live → b.ver ≤ H.clock → w'.heap[B]? = w.heap[B]?
  mono : ∀ (i : Nat) (b : ABlk), i < φ.length → H'.blks.get i = some b → b.live → ∃ b0, H.blks.get i = some b0 ∧ b0.live ∧ b0.ver ≤ b.ver
  keep : ∀ (i : Nat), isRo (H.blks.get i) = true → isRo (H'.blks.get i) = true
theorem FR.refl (φ : Emb) (H : Heap) (w : World) : FR φ φ H H w w :=
  ⟨rfl, rfl, rfl, Nat.le_refl _, Nat.le_refl _, fun _ _ _ => rfl, fun i B c h => .inl (List.getElem?_eq_some_iff.1 h).1, fun _ _ _ _ _ _ _ _ => rfl, fun i b _ h hl => ⟨b, h, hl, Nat.le_refl _⟩, fun _ h => h⟩
theorem FR.trans {φ φ1 φ2 : Emb} {H H1 H2 : Heap} {w w1 w2 : World} (e1 : Ext φ φ1) (h : FR φ φ1 H H1 w w1) (e2 : Ext φ1 φ2) (k : FR φ1 φ2 H1 H2 w1 w2) : FR φ φ2 H H2 w w2 where
  os := k.os.trans h.os
  tape := k.tape.trans h.tape
  output := k.output.trans h.output
  size := Nat.le_trans h.size k.size
  clock := Nat.le_trans h.clock k.clock
  old := fun B hB hn => by
    rw [k.old B (Nat.lt_of_lt_of_le hB h.size) ?_, h.old B hB hn]
    intro i c hi
    rcases h.fresh i B c hi with h1 | h1 | ⟨j, d, h1⟩
    · rw [e1.old h1] at hi; exact hn i c hi
    · omega
    · exact hn j d h1
  fresh := fun i B c hi => by
    rcases k.fresh i B c hi with h1 | h1 | ⟨j, d, h1⟩
    · rw [e2.old h1] at hi; exact h.fresh i B c hi
    · exact .inr (.inl (Nat.le_trans h.size h1))
    · rcases h.fresh j B d h1 with h2 | h2 | h2
      · rw [e1.old h2] at h1; exact .inr (.inr ⟨j, d, h1⟩)
      · exact .inr (.inl h2)
      · exact .inr (.inr h2)
  clean := fun i B c b hi hb hl hv => by
    have hlt : i < φ.length := (List.getElem?_eq_some_iff.1 hi).1
    obtain ⟨b0, h1, h2, h3⟩ := k.mono i b (Nat.lt_of_lt_of_le hlt e1.len) hb hl
    rw [k.clean i B c b (e1.get hi) hb hl (Nat.le_trans hv h.clock), h.clean i B c b0 hi h1 h2 (Nat.le_trans h3 hv)]
  mono := fun i b hi hb hl => by
    obtain ⟨b1, h1, h2, h3⟩ := k.mono i b (Nat.lt_of_lt_of_le hi e1.len) hb hl
    obtain ⟨b0, h4, h5, h6⟩ := h.mono i b1 hi h1 h2
    exact ⟨b0, h4, h5, Nat.le_trans h6 h3⟩
  keep := fun i hi => k.keep i (h.keep i hi)
/-- Below the first block of its own nothing has turned. -/
theorem FR.below {base : Bas} {φ φ' : Emb} {H H' : Heap} {w w' : World} (h : FR φ φ' H H' w w') (hH : HR base φ H w) : Below base.n w w' :=
  ⟨h.os, h.tape, h.output, h.size, fun k hk => by
    by_cases hx : ∃ (i c : Nat), φ[i]? = some (k, c)
    · obtain ⟨i, c, hi⟩ := hx
      have hr : isRo (H.blks.get i) = true := by
        cases hb : isRo (H.blks.get i)
        · have := (hH.rng i k c hi).1 hb; omega
        · rfl
      obtain ⟨n, cs, hg⟩ := isRo_inv (h.keep i hr)
      exact h.clean i k c _ hi hg trivial (Nat.zero_le _)
    · exact h.old k (Nat.lt_of_lt_of_le hk hH.base) (fun i c hi => hx ⟨i, c, hi⟩)⟩

/-- A draw turns nothing. -/
theorem HR.drew {base : Bas} {φ : Emb} {H : Heap} {w : World} (h : HR base φ H w) : HR base φ H w.drew := ⟨h.len, h.ver, h.sep, h.blk, h.rng, h.base, h.gl, h.inv.drew⟩
theorem FR.drew (φ : Emb) (H : Heap) (w : World) : FR φ φ H H w w.drew :=
  ⟨rfl, rfl, rfl, Nat.le_refl _, Nat.le_refl _, fun _ _ _ => rfl, fun i B c h => .inl (List.getElem?_eq_some_iff.1 h).1, fun _ _ _ _ _ _ _ _ => rfl, fun i b _ h hl => ⟨b, h, hl, Nat.le_refl _⟩, fun _ h => h⟩

/-! ## a new block -/
noncomputable def Heap.push (H : Heap) (b : ABlk) : Heap := ⟨Nat.succ H.next, H.clock, H.blks.set H.next b⟩
theorem HR.push {base : Bas} {φ : Emb} {H : Heap} {w : World} (h : HR base φ H w) (b : ABlk) (o : Obj) (c : Nat) (hv : b.ver ≤ H.clock) (hb : BR φ c b (some o)) :
    Ext φ (φ ++ [(w.heap.size, c)]) ∧ HR base (φ ++ [(w.heap.size, c)]) (H.push b) (w.alloc o) ∧ FR φ (φ ++ [(w.heap.size, c)]) H (H.push b) w (w.alloc o) ∧ (φ ++ [(w.heap.size, c)])[H.next]? = some (w.heap.size, c) := by
  have hx : Ext φ (φ ++ [(w.heap.size, c)]) := Ext.push φ _
  have hnew : (φ ++ [(w.heap.size, c)])[H.next]? = some (w.heap.size, c) := by rw [← h.len]; simp
  have hold : ∀ (i : Nat) (x : Nat × Nat), i ≠ H.next → (φ ++ [(w.heap.size, c)])[i]? = some x → φ[i]? = some x := by
    intro i x hi hx
    by_cases hlt : i < φ.length
    · rwa [List.getElem?_append_left hlt] at hx
    · have := (List.getElem?_eq_some_iff.1 hx).1
      have hl := h.len
      simp at this
      omega
  have hg : ∀ i b', (H.push b).blks.get i = some b' → (i = H.next ∧ b' = b) ∨ (i ≠ H.next ∧ H.blks.get i = some b') := by
    intro i b' hi
    simp only [Heap.push, Tr.get_set] at hi
    split at hi
    · rename_i he; injection hi with hi; exact .inl ⟨he, hi.symm⟩
    · rename_i he; exact .inr ⟨he, hi⟩
  have hgn : ∀ i, i ≠ H.next → (H.push b).blks.get i = H.blks.get i := fun i hi => by simp only [Heap.push, Tr.get_set, if_neg hi]
  have hw : ∀ B, B < w.heap.size → (w.alloc o).heap[B]? = w.heap[B]? := fun B hB => Go.RowKit.Below.heap_alloc w o B hB
  refine ⟨hx, ⟨by simp [Heap.push, h.len], fun i b' hi => ?_, fun i j bi bj B c1 d1 hi hj li lj fi fj => ?_, fun i b' B c1 hi fi => ?_, fun i B c1 fi => ?_, ?_, fun g hg => let ⟨c, hc⟩ := h.gl g hg; ⟨c, hx.get hc⟩, h.inv.alloc h.base o⟩, ⟨rfl, rfl, rfl, by simp, Nat.le_refl _, fun B hB _ => hw B hB, fun i B c1 fi => ?_, fun i B c1 b' fi hb' _ _ => ?_, fun i b' hi hb' hl => ?_, fun i hi => ?_⟩, hnew⟩
  · rcases hg i b' hi with ⟨rfl, rfl⟩ | ⟨_, hi⟩
    · exact ⟨hv, Nat.lt_succ_self _⟩
    · exact ⟨(h.ver i b' hi).1, Nat.lt_succ_of_lt (h.ver i b' hi).2⟩
  · rcases hg i bi hi with ⟨rfl, rfl⟩ | ⟨ni, hi⟩ <;> rcases hg j bj hj with ⟨rfl, rfl⟩ | ⟨nj, hj⟩
    · rfl
    · rw [hnew] at fi; injection fi with fi; injection fi with fB fc
      have := (h.rng j B d1 (hold j _ nj fj)).2
      omega
    · rw [hnew] at fj; injection fj with fj; injection fj with fB fc
      have := (h.rng i B c1 (hold i _ ni fi)).2
      omega
    · exact h.sep i j bi bj B c1 d1 hi hj li lj (hold i _ ni fi) (hold j _ nj fj)
  · rcases hg i b' hi with ⟨rfl, rfl⟩ | ⟨ni, hi⟩
    · rw [hnew] at fi; injection fi with fi; injection fi with fB fc
      subst fB; subst fc
      rw [heap_alloc_new]; exact hb.ext hx
    · have f' := hold i _ ni fi
      rw [hw B (h.rng i B c1 f').2]; exact (h.blk i b' B c1 hi f').ext hx
  · by_cases ni : i = H.next
    · subst ni; rw [hnew] at fi; injection fi with fi; injection fi with fB fc
      subst fB; exact ⟨fun _ => h.base, by simp⟩
    · have := h.rng i B c1 (hold i _ ni fi)
      rw [hgn i ni]; exact ⟨this.1, by simp; omega⟩
  · simp; have := h.base; omega
  · by_cases ni : i = H.next
    · subst ni; rw [hnew] at fi; injection fi with fi; injection fi with fB fc
      exact .inr (.inl (by omega))
    · exact .inl (List.getElem?_eq_some_iff.1 (hold i _ ni fi)).1
  · exact hw B (h.rng i B c1 fi).2
  · rcases hg i b' hb' with ⟨rfl, rfl⟩ | ⟨ni, hb'⟩
    · rw [h.len] at hi; omega
    · exact ⟨b', hb', hl, Nat.le_refl _⟩
  · have hne : i ≠ H.next := fun e => by
      obtain ⟨n, cs, hg⟩ := isRo_inv hi
      have := (h.ver i _ hg).2; omega
    rw [hgn i hne]; exact hi

/-! ## a block that turns -/
noncomputable def Heap.put (H : Heap) (i : Nat) (b : Nat → ABlk) : Heap := ⟨H.next, Nat.succ H.clock, H.blks.set i (b (Nat.succ H.clock))⟩
/-- Block i turns, in place. -/
theorem HR.put {base : Bas} {φ : Emb} {H : Heap} {w w' : World} (h : HR base φ H w) (i : Nat) (b0 : ABlk) (b : Nat → ABlk) (B c : Nat) (hi : H.blks.get i = some b0) (hl : b0.live) (hp : φ[i]? = some (B, c))
    (hv : ∀ v, (b v).ver = v) (hw : w.grownBy w' (some B)) (hs : w'.heap.size = w.heap.size) (hb : BR φ c (b (H.clock + 1)) w'.heap[B]?) (hbr : ∀ v, isRo (some (b v)) = false := by intro _; rfl) (hro : isRo (some b0) = false := by rfl) : HR base φ (H.put i b) w' ∧ FR φ φ H (H.put i b) w w' := by
  have hg : ∀ j b', (H.put i b).blks.get j = some b' → (j = i ∧ b' = b (H.clock + 1)) ∨ (j ≠ i ∧ H.blks.get j = some b') := by
    intro j b' hj
    simp only [Heap.put, Tr.get_set] at hj
    split at hj
    · rename_i he; injection hj with hj; exact .inl ⟨he, hj.symm⟩
    · rename_i he; exact .inr ⟨he, hj⟩
  have hin := (h.ver i b0 hi).2
  have hoth : ∀ (j : Nat) (b' : ABlk) (B' c' : Nat), j ≠ i → H.blks.get j = some b' → b'.live → φ[j]? = some (B', c') → w'.heap[B']? = w.heap[B']? := by
    intro j b' B' c' hj hb' hl' hp'
    refine hw.block B' (h.rng j B' c' hp').2 (fun e => hj ?_)
    injection e with e; subst e
    exact h.sep j i b' b0 B' c' c hb' hi hl' hl hp' hp
  have hgn : ∀ j, isRo ((H.put i b).blks.get j) = isRo (H.blks.get j) := by
    intro j
    simp only [Heap.put, Tr.get_set]
    split
    · rename_i he; rw [he, hi, hro]; exact hbr _
    · rfl
  refine ⟨⟨h.len, fun j b' hj => ?_, fun j k bj bk B' c' d' hj hk lj lk fj fk => ?_, fun j b' B' c' hj fj => ?_, fun j B' c' fj => ?_, ?_, h.gl, h.inv.grown hw h.base (fun k hk => by injection hk with hk; subst hk; exact (h.rng i B c hp).1 (by rw [hi]; exact hro))⟩, ⟨hw.os, hw.tape, hw.output, hw.size, Nat.le_succ _, fun B' hB' hn => ?_, fun j B' c' fj => .inl (List.getElem?_eq_some_iff.1 fj).1, fun j B' c' b' fj hb' hl' hv' => ?_, fun j b' hj hb' hl' => ?_, fun j hj => by rw [hgn]; exact hj⟩⟩
  · rcases hg j b' hj with ⟨rfl, rfl⟩ | ⟨nj, hj⟩
    · rw [hv]; exact ⟨Nat.le_refl _, hin⟩
    · have := h.ver j b' hj; exact ⟨Nat.le_succ_of_le this.1, this.2⟩
  · rcases hg j bj hj with ⟨e1, e2⟩ | ⟨nj, hj1⟩ <;> rcases hg k bk hk with ⟨e3, e4⟩ | ⟨nk, hk1⟩
    · rw [e1, e3]
    · rw [e1] at fj ⊢; exact h.sep i k b0 bk B' c' d' hi hk1 hl lk fj fk
    · rw [e3] at fk ⊢; exact h.sep j i bj b0 B' c' d' hj1 hi lj hl fj fk
    · exact h.sep j k bj bk B' c' d' hj1 hk1 lj lk fj fk
  · rcases hg j b' hj with ⟨rfl, rfl⟩ | ⟨nj, hj⟩
    · rw [hp] at fj; injection fj with fj; injection fj with e1 e2; subst e1; subst e2; exact hb
    · by_cases hl' : b'.live
      · rw [hoth j b' B' c' nj hj hl' fj]; exact h.blk j b' B' c' hj fj
      · cases b' <;> simp [ABlk.live] at hl' ; trivial
  · have := h.rng j B' c' fj; rw [hgn]; exact ⟨this.1, by omega⟩
  · have := h.base; omega
  · exact hw.block B' hB' (fun e => by injection e with e; subst e; exact hn i c hp)
  · rcases hg j b' hb' with ⟨rfl, rfl⟩ | ⟨nj, hb'⟩
    · rw [hv] at hv'; omega
    · exact hoth j b' B' c' nj hb' hl' fj
  · rcases hg j b' hb' with ⟨rfl, rfl⟩ | ⟨nj, hb'⟩
    · rw [hv]; exact ⟨b0, hi, hl, Nat.le_succ_of_le (h.ver j b0 hi).1⟩
    · exact ⟨b', hb', hl', Nat.le_refl _⟩
end Go.Ev
