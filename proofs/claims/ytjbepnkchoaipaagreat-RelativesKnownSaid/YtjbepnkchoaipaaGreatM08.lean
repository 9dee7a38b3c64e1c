import Derived.Test.YtjbepnkchoaipaaGreatM06
import Derived.Test.YtjbepnkchoaipaaGreatM07
import Derived.Laws.Externs
import Derived.MapKept
set_option linter.unusedVariables false
set_option linter.unusedSimpArgs false
/- A store in memory, and its methods that only read. -/
namespace Go.Proofs.YtjbepnkchoaipaaGreat
open Go.RowKit Go.Lib
set_option maxRecDepth 100000
/-- The cells of writes whose bytes are these. -/
def wrCells (L : List J.Wr) (vs : List Value) : List Value := (L.zip vs).flatMap fun p => [.int .u8 (p.1.kind : Nat), .int .i64 (p.1.idx : Nat), p.2]
def WrRow (w : World) (M : Nat → Prop) (v : Value) (L : List J.Wr) : Prop :=
  ∃ vs : List Value, vs.length = L.length ∧ w.ownsRow 0 111 3 v L.length (wrCells L vs) ∧ (∀ k, v.ownBlock = some k → M k) ∧ ∀ i (h : i < L.length) (h' : i < vs.length), Sl w M vs[i] L[i].bs
/-- An area of a disk: a row of one's own, or bytes that are only read. -/
def Area (w : World) (M : Nat → Prop) (v : Value) (l : List UInt8) : Prop :=
  (w.ownsRow 0 5 1 v l.length (u8s l) ∧ ∀ k, v.ownBlock = some k → M k) ∨ Slc w M v l
/-- What a store of the model owes: its numbers are small. -/
structure Ok (s : J.St) : Prop where
  size : s.size ≤ 4194304
  commits : s.commits ≤ 4294967296 + s.logged
  gen : s.gen ≤ J.latest
  area : s.area ≤ 1
  side : s.side ≤ 1
  logged : s.logged ≤ 16777216
  writes : s.writes.length ≤ s.logged
  chs : s.changes.length ≤ s.size
  encs : s.opn = true → (J.encs s.changes).length + 13 = s.size
  clo : s.opn = false → s.changes = []
  a0 : s.disk.a0.length ≤ 8388608
  a1 : s.disk.a1.length ≤ 8388608
  h0 : s.disk.h0.length ≤ 8388608
  h1 : s.disk.h1.length ≤ 8388608
  now : (J.encs (J.values s.now)).length ≤ 8388608 + s.logged + (J.encs s.changes).length
  was : (J.encs (J.values s.was)).length ≤ 8388608 + s.logged
/-- The parts of a store that lie outside its own block. -/
structure Parts (w : World) (M : Nat → Prop) (s : J.St) (bn : Nat) (bw : Option Nat) (ch wr b0 b1 b2 b3 d0 d1 d2 d3 : Value) : Prop where
  now : MapR w M bn s.now
  mbn : M bn
  was : match bw with | none => s.opn = false | some b => s.opn = true ∧ MapR w M b s.was ∧ M b ∧ b ≠ bn
  chs : ChRow w M 0 ch s.changes
  mch : ∀ k, ch.ownBlock = some k → M k
  wrs : WrRow w M wr s.writes
  f0 : Slc w M b0 s.base.h0
  f1 : Slc w M b1 s.base.h1
  f2 : Slc w M b2 s.base.a0
  f3 : Slc w M b3 s.base.a1
  e0 : Sl w M d0 s.disk.h0
  e1 : Sl w M d1 s.disk.h1
  e2 : Area w M d2 s.disk.a0
  e3 : Area w M d3 s.disk.a1
  dd : ∀ k, d2.ownBlock = some k → d3.ownBlock = some k → ¬ M k
/-- The cells of a store. -/
abbrev stCells (s : J.St) (bn : Nat) (bw : Option Nat) (ch wr b0 b1 b2 b3 d0 d1 d2 d3 : Value) : Array Value :=
  #[.bool true, .bool s.opn, .map (some bn), ch, .int .i64 (s.size : Nat), .bool s.spoilt, .map bw, .int .i64 (s.commits : Nat), .int .u64 (s.gen : Nat), .int .i64 (s.area : Nat), .int .i64 (s.side : Nat), b0, b1, b2, b3, d0, d1, d2, d3, wr, .int .i64 (s.logged : Nat)]
/-- A store at block p; M: the blocks that it may write to. -/
def StoreR (w : World) (p : Nat) (M : Nat → Prop) (s : J.St) : Prop :=
  ∃ (bn : Nat) (bw : Option Nat) (ch wr b0 b1 b2 b3 d0 d1 d2 d3 : Value),
    w.heap[p]? = some (.cells #[.bool true, .bool s.opn, .map (some bn), ch, .int .i64 (s.size : Nat), .bool s.spoilt, .map bw, .int .i64 (s.commits : Nat), .int .u64 (s.gen : Nat), .int .i64 (s.area : Nat), .int .i64 (s.side : Nat), b0, b1, b2, b3, d0, d1, d2, d3, wr, .int .i64 (s.logged : Nat)] 83 (0, 0)) ∧
    M p ∧ Parts w M s bn bw ch wr b0 b1 b2 b3 d0 d1 d2 d3 ∧ Ok s
/-- A row is kept where its block is. -/
theorem own_same {w w' : World} {base n size : Nat} {e : TypeId} {v : Value} {xs : List Value} (h : w.ownsRow base e size v n xs) (hb : ∀ k, v.ownBlock = some k → w'.heap[k]? = w.heap[k]?) : w'.ownsRow base e size v n xs := by
  refine ⟨h.1, ?_⟩
  rcases h.2 with h | ⟨g, cap, cur, rfl, h1, h2, h3⟩
  · exact .inl h
  · exact .inr ⟨g, cap, cur, rfl, h1, (hb g rfl).trans h2, h3⟩
theorem ChRow.keep {w w' : World} {M M' : Nat → Prop} {base : Nat} {v : Value} {L : List J.Chg} (h : ChRow w M base v L) (hs : Step M M' w w') (hm : ∀ k, v.ownBlock = some k → M k) (hb : ∀ k, v.ownBlock = some k → w'.heap[k]? = w.heap[k]?) : ChRow w' M' base v L := by
  obtain ⟨vs, h1, h2, h3⟩ := h
  have _ := hm
  exact ⟨vs, h1, own_same h2 hb, fun i hi hi' => (h3 i hi hi').step ⟨hs.os, hs.tape, hs.output, hs.size, fun k hk hn => hs.block k hk (fun h => hn (.inl h)), fun k hk h => h.imp (hs.sub k hk) id⟩⟩
theorem WrRow.keep {w w' : World} {M M' : Nat → Prop} {v : Value} {L : List J.Wr} (h : WrRow w M v L) (hs : Step M M' w w') (hm : ∀ k, v.ownBlock = some k → M' k) (hb : ∀ k, v.ownBlock = some k → w'.heap[k]? = w.heap[k]?) : WrRow w' M' v L := by
  obtain ⟨vs, h1, h2, h3, h4⟩ := h
  exact ⟨vs, h1, own_same h2 hb, hm, fun i hi hi' => (h4 i hi hi').step hs⟩
theorem Area.keep {w w' : World} {M M' : Nat → Prop} {v : Value} {l : List UInt8} (h : Area w M v l) (hs : Step M M' w w') (hm : ∀ k, v.ownBlock = some k → M k → M' k) (hb : ∀ k, v.ownBlock = some k → M k → w'.heap[k]? = w.heap[k]?) : Area w' M' v l := by
  rcases h with ⟨h1, h2⟩ | h
  · exact .inl ⟨own_same h1 (fun k hk => hb k hk (h2 k hk)), fun k hk => hm k hk (h2 k hk)⟩
  · exact .inr (h.step hs)
section
variable {w w' : World} {M M' : Nat → Prop} {s : J.St} {bn : Nat} {bw : Option Nat} {ch wr b0 b1 b2 b3 d0 d1 d2 d3 : Value}
/-- The parts are kept where none of their blocks is written to. -/
theorem Parts.keep (h : Parts w M s bn bw ch wr b0 b1 b2 b3 d0 d1 d2 d3) (hs : Step M M' w w') (hk : ∀ k, k < w.heap.size → M k → (k = bn ∨ bw = some k ∨ ch.ownBlock = some k ∨ wr.ownBlock = some k ∨ d2.ownBlock = some k ∨ d3.ownBlock = some k) → M' k ∧ w'.heap[k]? = w.heap[k]?) :
    Parts w' M' s bn bw ch wr b0 b1 b2 b3 d0 d1 d2 d3 := by
  have kb := hk bn h.now.lt h.mbn (.inl rfl)
  have hch : ∀ k, ch.ownBlock = some k → k < w.heap.size := fun k e => by obtain ⟨vs, _, h2, _⟩ := h.chs; exact (h2.lt k e).2
  have hwr : ∀ k, wr.ownBlock = some k → k < w.heap.size := fun k e => by obtain ⟨vs, _, h2, _⟩ := h.wrs; exact (h2.lt k e).2
  have mwr : ∀ k, wr.ownBlock = some k → M k := fun k e => by obtain ⟨vs, _, _, h2, _⟩ := h.wrs; exact h2 k e
  have harea : ∀ {v : Value} {l : List UInt8}, Area w M v l → ∀ k, v.ownBlock = some k → k < w.heap.size := by
    intro v l ha k e
    rcases ha with ⟨h1, _⟩ | ⟨rfl, _⟩ | ⟨b, o, rfl, _, ⟨hb, _⟩, _, _⟩
    · exact (h1.lt k e).2
    · cases e
    · simp [Value.ownBlock] at e; omega
  refine ⟨h.now.step hs kb.2, kb.1, ?_, h.chs.keep hs h.mch (fun k e => (hk k (hch k e) (h.mch k e) (.inr (.inr (.inl e)))).2), fun k e => (hk k (hch k e) (h.mch k e) (.inr (.inr (.inl e)))).1,
    h.wrs.keep hs (fun k e => (hk k (hwr k e) (mwr k e) (.inr (.inr (.inr (.inl e))))).1) (fun k e => (hk k (hwr k e) (mwr k e) (.inr (.inr (.inr (.inl e))))).2),
    h.f0.step hs, h.f1.step hs, h.f2.step hs, h.f3.step hs, h.e0.step hs, h.e1.step hs,
    h.e2.keep hs (fun k e m => (hk k (harea h.e2 k e) m (.inr (.inr (.inr (.inr (.inl e)))))).1) (fun k e m => (hk k (harea h.e2 k e) m (.inr (.inr (.inr (.inr (.inl e)))))).2),
    h.e3.keep hs (fun k e m => (hk k (harea h.e3 k e) m (.inr (.inr (.inr (.inr (.inr e)))))).1) (fun k e m => (hk k (harea h.e3 k e) m (.inr (.inr (.inr (.inr (.inr e)))))).2),
    fun k e2 e3 m => h.dd k e2 e3 (hs.sub k (harea h.e2 k e2) m)⟩
  cases bw with
  | none => exact h.was
  | some b =>
    obtain ⟨g1, g2, g3, g4⟩ := h.was
    have kw := hk b g2.lt g3 (.inr (.inl rfl))
    exact ⟨g1, g2.step hs kw.2, kw.1, g4⟩
theorem Parts.below (h : Parts w M s bn bw ch wr b0 b1 b2 b3 d0 d1 d2 d3) (hb : Below w.heap.size w w') : Parts w' M s bn bw ch wr b0 b1 b2 b3 d0 d1 d2 d3 :=
  h.keep (Step.of_below hb) (fun k hk hm _ => ⟨hm, hb.block k hk⟩)
/-- The store's own block is none of them. -/
theorem Parts.ne (h : Parts w M s bn bw ch wr b0 b1 b2 b3 d0 d1 d2 d3) {p : Nat} {C : Array Value} {fr : Nat × Nat} (hp : w.heap[p]? = some (.cells C 83 fr)) (hm : M p) :
    ¬ (p = bn ∨ bw = some p ∨ ch.ownBlock = some p ∨ wr.ownBlock = some p ∨ d2.ownBlock = some p ∨ d3.ownBlock = some p) := by
  have hmap : ∀ {b : Nat} {m : List (J.B × J.B)}, MapR w M b m → p ≠ b := by
    rintro b m ⟨D, ⟨es, clock, hb, _⟩, _⟩ rfl
    rw [hb] at hp; cases hp
  have harea : ∀ {v : Value} {l : List UInt8}, Area w M v l → v.ownBlock ≠ some p := by
    intro v l ha e
    rcases ha with ⟨h1, _⟩ | ⟨rfl, _⟩ | ⟨b, o, rfl, _, hb, hy, _⟩
    · exact own_ne_row h1 hp (by decide) e
    · cases e
    · simp [Value.ownBlock] at e
      exact hy (e ▸ hm)
  rintro (e | e | e | e | e | e)
  · exact hmap h.now e
  · subst e; exact hmap h.was.2.1 rfl
  · obtain ⟨vs, _, h2, _⟩ := h.chs; exact own_ne_row h2 hp (by decide) e
  · obtain ⟨vs, _, h2, _⟩ := h.wrs; exact own_ne_row h2 hp (by decide) e
  · exact harea h.e2 e
  · exact harea h.e3 e
end
theorem StoreR.below {w w' : World} {p : Nat} {M : Nat → Prop} {s : J.St} (h : StoreR w p M s) (hb : Below w.heap.size w w') : StoreR w' p M s := by
  obtain ⟨bn, bw, ch, wr, b0, b1, b2, b3, d0, d1, d2, d3, h1, h2, h3, h4⟩ := h
  exact ⟨bn, bw, ch, wr, b0, b1, b2, b3, d0, d1, d2, d3, (hb.block p (Array.getElem?_eq_some_iff.1 h1).1).trans h1, h2, h3.below hb, h4⟩
theorem StoreR.lt {w : World} {p : Nat} {M : Nat → Prop} {s : J.St} (h : StoreR w p M s) : p < w.heap.size := by
  obtain ⟨bn, bw, ch, wr, b0, b1, b2, b3, d0, d1, d2, d3, h1, _⟩ := h
  exact (Array.getElem?_eq_some_iff.1 h1).1

theorem ready_any (p : Nat) (M : Nat → Prop) (s : J.St) (w : World) (h : StoreR w p M s) :
    Calls Tryz.prog 54 #[.pointer (some ⟨p, 0, none⟩)] w fun e w' => e = .returned (.bool true) ∧ w = w' := by
  obtain ⟨bn, bw, ch, wr, b0, b1, b2, b3, d0, d1, d2, d3, h1, _⟩ := h
  have hc := fun j => cell_of_row w p j _ _ _ h1
  clear h1
  go_enter Tryz.func54, Tryz.ntmps54
  go_wp2
  go_ret
  exact ⟨rfl, rfl⟩
/-- The error of the state. -/
def stateE (o open_ : Bool) : Int := if o = open_ then 0 else 6
theorem state_any (p : Nat) (M : Nat → Prop) (s : J.St) (b : Bool) (w : World) (h : StoreR w p M s) :
    Calls Tryz.prog 61 #[.pointer (some ⟨p, 0, none⟩), .bool b] w fun e w' => e = .returned (.int .i64 (stateE s.opn b)) ∧ w = w' := by
  have H := Lib.hid h
  obtain ⟨bn, bw, ch, wr, b0, b1, b2, b3, d0, d1, d2, d3, h1, _⟩ := h
  have hc := fun j => cell_of_row w p j _ _ _ h1
  clear h1
  generalize hop : s.opn = op at hc
  have HOP := Lib.hid hop
  clear hop
  cases op <;> cases b
  all_goals
    go_enter Tryz.func61, Tryz.ntmps61
    go_wp2_with fail
    refine (ready_any p M s _ H.out).mono ?_
    rintro e w1 ⟨rfl, rfl⟩
    go_wp2
    go_ret
    exact ⟨rfl, rfl⟩
end Go.Proofs.YtjbepnkchoaipaaGreat
/- Contract: maps.Clone of a map of slices of bytes. -/
namespace Go.Proofs.YtjbepnkchoaipaaGreat
open Go.RowKit Go.Lib Go.Maps
set_option maxRecDepth 100000
section
variable {P : Program} (w : World)
theorem run_equalIn_map_nil_b (d : Nat) (t k e : TypeId) (p : Option Nat) (h : P.underlying t = some (.map k e)) :
    (Op.equalIn (d + 1) t (.map p) (.map none)).run P w = .ok p.isNone w := by
  cases p <;> simp [Op.equalIn, run_underlying h]
theorem run_eql_map_nil_b (t k e : TypeId) (p : Option Nat) (h : P.underlying t = some (.map k e)) :
    (binOp .eql t (.map p) (.map none)).run P w = .ok (.bool p.isNone) w := by
  simp only [binOp]
  simp [show Op.equal t (.map p) (.map none) = Op.equalIn (9999 + 1) t (.map p) (.map none) from rfl, run_equalIn_map_nil_b w 9999 t k e p h]
theorem run_typeAssert_map_b (t xT k e : TypeId) (v : Value) (h : P.underlying t = some (.map k e)) : (Instr.typeAssert (.iface t v) xT t false).run P w = .ok v w := by
  simp [Instr.typeAssert, run_underlying h, go_sem, Result.andThen]
theorem run_maps_clone_b {r : Nat} {es : Array MapEntry} {clock : Nat} (t : TypeId) (hb : w.heap[r]? = some (.map es clock)) :
    (Extern.MapsClone.clone #[.iface t (.map (some r))]).run P w = .ok (.iface t (.map (some w.heap.size))) (w.alloc (.map es clock)) := by
  have e : Extern.MapsClone.clone #[.iface t (.map (some r))] = (getObj r >>= fun o => match o with
      | .map entries clock => (newObj (.map entries clock) >>= fun n => pure (.iface t (.map (some n))))
      | _ => stuck "maps.clone: a map expected") := rfl
  rw [e]
  simp [MapKept.run_getObj_map hb, Result.andThen, go_sem]
end
theorem cloneM_any (b : Nat) (m : List (J.B × J.B)) (M M' : Nat → Prop) (w : World) (h : MapR w M b m) (hM : ∀ k, k < w.heap.size → M' k → M k) :
    Calls Tryz.prog 62 #[.map (some b)] w fun e w' => e = .returned (.map (some w.heap.size)) ∧ MapR w' M' w.heap.size m ∧ w'.heap.size = w.heap.size + 1 ∧ Below w.heap.size w w' := by
  have H := Lib.hid h
  obtain ⟨D, ⟨es, clock, hb, hr⟩, hD⟩ := h
  have HR := Lib.hid hr
  have HD := Lib.hid hD
  clear hr hD
  have hq := fun w => run_eql_map_nil_b (P := Tryz.prog) w 79 _ _ (some b) Tryz.underlying79
  go_enter Tryz.func62, Tryz.ntmps62
  go_wp2
  rw [run_callFunc_extern Tryz.func89 (by kernel_rfl) (by kernel_rfl) (by kernel_rfl) (e := Extern.MapsClone.clone) (by kernel_rfl), run_maps_clone_b w 79 hb]
  simp only [Result.andThen]
  rw [Oper.upon_value]
  go_wp2
  rw [run_typeAssert_map_b _ 79 20 _ _ _ Tryz.underlying79]
  simp only [Result.andThen]
  rw [Oper.upon_value]
  go_wp2
  go_ret
  have hB : Below w.heap.size w (w.alloc (.map es clock)) := (Below.refl _ w).alloc (Nat.le_refl _) _
  refine ⟨rfl, ⟨D, ⟨es, clock, heap_alloc_new w _, HR.out⟩, HD.out.1, HD.out.2.1, fun k l hk => ?_⟩, by simp, hB⟩
  obtain ⟨v, d, g1, g2, g3⟩ := HD.out.2.2 k l hk
  exact ⟨v, d, g1, g2, g3.step ⟨hB.os, hB.tape, hB.output, hB.size, fun k hk _ => hB.block k hk, hM⟩⟩
end Go.Proofs.YtjbepnkchoaipaaGreat
/- Contracts: Begin, Abandon. -/
namespace Go.Proofs.YtjbepnkchoaipaaGreat
open Go.RowKit Go.Lib Go.Maps Go.WideMaps
set_option maxRecDepth 100000
theorem blk_set {w : World} {g : Nat} {t : TypeId} {cs : Array Value} (h : w.heap[g]? = some (.cells cs t (0, 0))) (i : Nat) (u : Value) : (w.setCell ⟨g, i, none⟩ u).heap[g]? = some (.cells (cs.setIfInBounds i u) t (0, 0)) := by
  simp [World.setCell, Array.getElem?_modify, h]
/-- What turns in the store's own block alone. -/
theorem Parts.own {w w' : World} {M : Nat → Prop} {s : J.St} {bn : Nat} {bw : Option Nat} {ch wr b0 b1 b2 b3 d0 d1 d2 d3 : Value} (h : Parts w M s bn bw ch wr b0 b1 b2 b3 d0 d1 d2 d3) {p : Nat} {C : Array Value} {fr : Nat × Nat} (hp : w.heap[p]? = some (.cells C 83 fr)) (hm : M p) (hg : w.grownBy w' (some p)) :
    Parts w' M s bn bw ch wr b0 b1 b2 b3 d0 d1 d2 d3 :=
  h.keep (Step.of_grown hg (fun k e _ => by cases e; exact hm)) (fun k hk hmk hd => ⟨hmk, hg.block k hk (fun e => by cases e; exact h.ne hp hm hd)⟩)
/-- .. behind calls that only make memory; the set of the blocks may have got new ones. -/
theorem Parts.go {w w1 w' : World} {M M' : Nat → Prop} {s : J.St} {bn : Nat} {bw : Option Nat} {ch wr b0 b1 b2 b3 d0 d1 d2 d3 : Value} (h : Parts w M s bn bw ch wr b0 b1 b2 b3 d0 d1 d2 d3) {p : Nat} {C : Array Value} {fr : Nat × Nat} (hp : w.heap[p]? = some (.cells C 83 fr)) (hm : M p)
    (hb : Below w.heap.size w w1) (hg : w1.grownBy w' (some p)) (hM : ∀ k, k < w.heap.size → (M' k ↔ M k)) : Parts w' M' s bn bw ch wr b0 b1 b2 b3 d0 d1 d2 d3 := by
  have hk : ∀ k, k < w.heap.size → k ≠ p → w'.heap[k]? = w.heap[k]? := fun k h1 h2 => (hg.block k (Nat.lt_of_lt_of_le h1 hb.size) (fun e => h2 (by injection e))).trans (hb.block k h1)
  exact h.keep ⟨hg.os.trans hb.os, hg.tape.trans hb.tape, hg.output.trans hb.output, Nat.le_trans hb.size hg.size, fun k h1 h2 => hk k h1 (fun e => h2 (e ▸ hm)), fun k h1 h2 => (hM k h1).1 h2⟩
    (fun k h1 h2 hd => ⟨(hM k h1).2 h2, hk k h1 (fun e => by subst e; exact h.ne hp hm hd)⟩)
theorem go_step {w w1 w' : World} {M M' : Nat → Prop} {p : Nat} (hm : M p) (hb : Below w.heap.size w w1) (hg : w1.grownBy w' (some p)) (hM : ∀ k, k < w.heap.size → (M' k ↔ M k)) : Step M M' w w' :=
  ⟨hg.os.trans hb.os, hg.tape.trans hb.tape, hg.output.trans hb.output, Nat.le_trans hb.size hg.size, fun k h1 h2 => (hg.block k (Nat.lt_of_lt_of_le h1 hb.size) (fun e => h2 (by injection e with e; exact e ▸ hm))).trans (hb.block k h1), fun k h1 h2 => (hM k h1).1 h2⟩
theorem grown_set {w w' : World} {p : Nat} (h : w.grownBy w' (some p)) (i : Nat) (v : Value) : w.grownBy (w'.setCell ⟨p, i, none⟩ v) (some p) :=
  ⟨h.os, h.tape, h.output, by simpa [World.setCell] using h.size, fun k hk hn => (Below.heap_setCell w' _ v k (fun e => hn (by rw [e]))).trans (h.block k hk hn)⟩
theorem frozen_row {w : World} {g : Nat} {t : TypeId} {cs : Array Value} (h : w.heap[g]? = some (.cells cs t (0, 0))) (j : Nat) : w.frozen? ⟨g, j, none⟩ = false := by simp [World.frozen?, h]
/-- What begins a transaction. -/
theorem begin_open (p : Nat) (M : Nat → Prop) (s : J.St) (w : World) (h : StoreR w p M s) (ho : s.opn = true) :
    Calls Tryz.prog 24 #[.pointer (some ⟨p, 0, none⟩)] w fun e w' => e = .returned (.int .i64 6) ∧ w = w' := by
  have H := Lib.hid (state_any p M s false w h)
  have HO := Lib.hid ho
  clear ho
  go_enter Tryz.func24, Tryz.ntmps24
  go_wp2_with fail
  refine (H.out).mono ?_
  rintro e w1 ⟨rfl, rfl⟩
  rw [HO.out]
  go_wp2
  go_ret
  exact ⟨rfl, rfl⟩
set_option maxHeartbeats 4000000 in
theorem begin_any (p : Nat) (M : Nat → Prop) (s : J.St) (w : World) (h : StoreR w p M s) (ho : s.opn = false) :
    Calls Tryz.prog 24 #[.pointer (some ⟨p, 0, none⟩)] w fun e w' => e = .returned (.int .i64 0) ∧ ∃ M', StoreR w' p M' (J.begin_ s) ∧ Step M M' w w' := by
  have H := Lib.hid h
  obtain ⟨bn, bw, ch, wr, b0, b1, b2, b3, d0, d1, d2, d3, h1, h2, h3, h4⟩ := h
  have H1 := Lib.hid h1
  have H2 := Lib.hid h2
  have H3 := Lib.hid h3
  have H4 := Lib.hid h4
  have hc := fun j => cell_of_row w p j _ _ _ h1
  have HO := Lib.hid ho
  have hpl : p < w.heap.size := (Array.getElem?_eq_some_iff.1 h1).1
  clear h1 h2 h3 h4 ho
  go_enter Tryz.func24, Tryz.ntmps24
  go_wp2_with fail
  refine (state_any p M s false w H.out).mono ?_
  rintro e w1 ⟨rfl, rfl⟩
  rw [HO.out]
  go_wp2_with fail
  refine (cloneM_any bn s.now M (fun k => M k ∨ k = w.heap.size) w H3.out.now (fun k hk h => h.resolve_right (by omega))).mono ?_
  rintro e w1 ⟨rfl, hm, hsz, hb⟩
  have hr1 := (hb.block p hpl).trans H1.out
  have hc1 := fun j => cell_of_row w1 p j _ _ _ hr1
  have hf1 := frozen_row hr1
  have HM := Lib.hid hm
  have HB := Lib.hid hb
  have HR1 := Lib.hid hr1
  have HZ := Lib.hid hsz
  clear hm hb hr1 hsz hc
  go_wp2_with fail
  go_ret
  have hg := grown_set (grown_set (grown_set (grown_set (grown_set (World.grownBy.refl w1 (some p)) 1 (.bool true)) 5 (.bool false)) 3 (.slice none 0 0)) 4 (.int .i64 13)) 6 (.map (some w.heap.size))
  have hrow := blk_set (blk_set (blk_set (blk_set (blk_set HR1.out 1 (.bool true)) 5 (.bool false)) 3 (.slice none 0 0)) 4 (.int .i64 13)) 6 (.map (some w.heap.size))
  have hM : ∀ k, k < w.heap.size → ((M k ∨ k = w.heap.size) ↔ M k) := fun k hk => ⟨fun h => h.resolve_right (by omega), .inl⟩
  refine ⟨rfl, fun k => M k ∨ k = w.heap.size, ?_, go_step H2.out HB.out hg hM⟩
  have P := H3.out.go H1.out H2.out HB.out hg hM
  have hok := H4.out
  refine ⟨bn, some w.heap.size, .slice none 0 0, wr, b0, b1, b2, b3, d0, d1, d2, d3, hrow, .inl H2.out, ⟨P.now, P.mbn, ⟨rfl, ?_, .inr rfl, ?_⟩, ChRow.nil_ _ _ _, fun k h => (by cases h), P.wrs, P.f0, P.f1, P.f2, P.f3, P.e0, P.e1, P.e2, P.e3, P.dd⟩, ?_⟩
  · exact HM.out.step (Step.of_grown hg (fun k e _ => by cases e; exact .inl H2.out)) (hg.block _ (by rw [HZ.out]; omega) (fun e => by injection e with e; omega))
  · have := H3.out.now.lt; omega
  · have hn := hok.clo HO.out
    have hnow := hok.now
    rw [hn] at hnow
    exact ⟨by show 13 ≤ _; omega, hok.commits, hok.gen, hok.area, hok.side, hok.logged, hok.writes, by show 0 ≤ 13; omega, fun _ => rfl, fun h => (by cases h), hok.a0, hok.a1, hok.h0, hok.h1, hnow, by simpa [J.encs, J.begin_] using hnow⟩
theorem abandon_shut (p : Nat) (M : Nat → Prop) (s : J.St) (w : World) (h : StoreR w p M s) (ho : s.opn = false) :
    Calls Tryz.prog 25 #[.pointer (some ⟨p, 0, none⟩)] w fun e w' => e = .returned (.int .i64 6) ∧ w = w' := by
  have H := Lib.hid (state_any p M s true w h)
  have HO := Lib.hid ho
  clear ho
  go_enter Tryz.func25, Tryz.ntmps25
  go_wp2_with fail
  refine (H.out).mono ?_
  rintro e w1 ⟨rfl, rfl⟩
  rw [HO.out]
  go_wp2
  go_ret
  exact ⟨rfl, rfl⟩
set_option maxHeartbeats 4000000 in
theorem abandon_any (p : Nat) (M : Nat → Prop) (s : J.St) (w : World) (h : StoreR w p M s) (ho : s.opn = true) :
    Calls Tryz.prog 25 #[.pointer (some ⟨p, 0, none⟩)] w fun e w' => e = .returned (.int .i64 0) ∧ StoreR w' p M (J.abandon s) ∧ Step M M w w' := by
  have H := Lib.hid h
  obtain ⟨bn, bw, ch, wr, b0, b1, b2, b3, d0, d1, d2, d3, h1, h2, h3, h4⟩ := h
  have HO := Lib.hid ho
  obtain ⟨b, rfl⟩ : ∃ b, bw = some b := by
    cases bw with
    | none => have h := h3.was; simp only at h; rw [ho] at h; cases h
    | some b => exact ⟨b, rfl⟩
  have H1 := Lib.hid h1
  have H2 := Lib.hid h2
  have H3 := Lib.hid h3
  have H4 := Lib.hid h4
  have hc := fun j => cell_of_row w p j _ _ _ h1
  have hf := frozen_row h1
  have hpl : p < w.heap.size := (Array.getElem?_eq_some_iff.1 h1).1
  clear h1 h2 h3 h4 ho
  go_enter Tryz.func25, Tryz.ntmps25
  go_wp2_with fail
  refine (state_any p M s true w H.out).mono ?_
  rintro e w1 ⟨rfl, rfl⟩
  rw [HO.out]
  go_wp2_with fail
  go_ret
  have hg := grown_set (grown_set (grown_set (grown_set (World.grownBy.refl w (some p)) 1 (.bool false)) 3 (.slice none 0 0)) 2 (.map (some b))) 6 (.map none)
  have hrow := blk_set (blk_set (blk_set (blk_set H1.out 1 (.bool false)) 3 (.slice none 0 0)) 2 (.map (some b))) 6 (.map none)
  have hM : ∀ k, k < w.heap.size → (M k ↔ M k) := fun _ _ => Iff.rfl
  refine ⟨rfl, ?_, go_step H2.out (Below.refl _ _) hg hM⟩
  have P := H3.out.go H1.out H2.out (Below.refl _ _) hg hM
  have hok := H4.out
  have hw := P.was
  refine ⟨b, none, .slice none 0 0, wr, b0, b1, b2, b3, d0, d1, d2, d3, hrow, H2.out, ⟨hw.2.1, hw.2.2.1, rfl, ChRow.nil_ _ _ _, fun k h => (by cases h), P.wrs, P.f0, P.f1, P.f2, P.f3, P.e0, P.e1, P.e2, P.e3, P.dd⟩, ?_⟩
  exact ⟨hok.size, hok.commits, hok.gen, hok.area, hok.side, hok.logged, hok.writes, Nat.zero_le _, fun h => (by cases h), fun _ => rfl, hok.a0, hok.a1, hok.h0, hok.h1, by have := hok.was; show _ ≤ 8388608 + s.logged + 0; exact this, Nat.zero_le _⟩
/-- What is looked up. -/
theorem MapR.look {w : World} {M : Nat → Prop} {m : List (J.B × J.B)} {D : DataW Unit} (h3 : ∀ k, Maps.has D (.string k) = (J.look m k).isSome)
    (h4 : ∀ k l, J.look m k = some l → ∃ v d, vElem v = some (d, []) ∧ (∀ z, D.atKey (.string k) z = d) ∧ Slc w M v l) {k : J.B} {v : Value} {ps : List MemPlace} (hv : vElem v = some (D.atKey (.string k) .nil, ps)) : Slc w M v ((J.look m k).getD []) := by
  cases hq : J.look m k with
  | some l =>
    obtain ⟨v0, d, g1, g2, g3⟩ := h4 k l hq
    rw [g2] at hv
    rw [vElem_inj hv g1]; exact g3
  | none =>
    have hh := h3 k
    rw [hq] at hh
    rw [atKey_of_not_has hh] at hv
    have : v = .slice none 0 0 := vElem_inj hv (show vElem (.slice none 0 0) = some (.nil, []) from rfl)
    rw [this]; exact Slc.nil_
set_option maxHeartbeats 4000000 in
theorem getS_any (p : Nat) (M : Nat → Prop) (s : J.St) (key : ByteArray) (w : World) (h : StoreR w p M s) (hk : key.size ≤ maxLen) (hl : ∀ l, J.look s.now key.data.toList = some l → l.length ≤ 90000000) :
    Calls Tryz.prog 32 #[.pointer (some ⟨p, 0, none⟩), .string key] w fun e w' => ∃ v, e = .returned (.tuple #[v, .bool (J.look s.now key.data.toList).isSome]) ∧ Slc w' (· < w.heap.size) v ((J.look s.now key.data.toList).getD []) ∧ Below w.heap.size w w' := by
  have H := Lib.hid h
  obtain ⟨bn, bw, ch, wr, b0, b1, b2, b3, d0, d1, d2, d3, h1, h2, h3, h4⟩ := h
  obtain ⟨D, hown, hasc, hhas, hval⟩ := h3.now
  have HH := Lib.hid hhas
  have HV := Lib.hid hval
  have HOw := Lib.hid hown
  have hkey : keyOf Tryz.prog 9 (.string key) = some (.string key.data.toList) := keyOf_string_mk Tryz.underlying9 hk
  have HK := Lib.hid hkey
  have hc := fun j => cell_of_row w p j _ _ _ h1
  have HL := Lib.hid hl
  clear h1 h2 h3 h4 hown hasc hhas hval hkey hl
  go_enter Tryz.func32, Tryz.ntmps32
  go_wp2_with fail
  refine (ready_any p M s _ H.out).mono ?_
  rintro e w1 ⟨rfl, rfl⟩
  go_wp2_with (at_lookup; refine wpList_lookup_own_ok _ rfl _ _ 79 rfl 9 37 lawS Tryz.underlying79 vElem (zeroB _) .nil [] rfl bn _ D rfl HOw.out _ _ rfl HK.out ?_)
  intro v ps hv
  have hsl := MapR.look (w := w) (M := M) HH.out HV.out hv
  have hhs := HH.out key.data.toList
  generalize hlk : J.look s.now key.data.toList = lk at hsl hhs
  have hll : (lk.getD []).length ≤ 90000000 := by
    cases lk with
    | none => exact Nat.zero_le _
    | some l => exact HL.out l hlk
  have HSL := Lib.hid hsl
  rw [hhs]
  have HLK := Lib.hid hlk
  clear hsl hv hhs hlk
  go_wp2_with fail
  refine (copied_any v (lk.getD []) w M HSL.out.sl hll).mono ?_
  rintro e w2 ⟨v2, rfl, hs2, hb2⟩
  have HS2 := Lib.hid hs2
  have HB2 := Lib.hid hb2
  clear hs2 hb2
  go_wp2_with fail
  go_ret2
  exact ⟨_, by rw [HLK.out]; rfl, by rw [HLK.out]; exact HS2.out, HB2.out⟩
end Go.Proofs.YtjbepnkchoaipaaGreat
