/- Slices of bytes: Clip, Clone; laws at a slice expression on bytes that are read; a string of them. -/
import Derived.Test.YtojmckbpafkagaaGreatDoorJApp
import Derived.Outline
import Derived.Lib.LazyBuf
import Derived.Laws.CopyOwn
set_option linter.unusedVariables false
set_option linter.unusedSimpArgs false
namespace Go.Proofs.YtojmckbpafkagaaGreatDoor
open Go.RowKit Go.Lib
set_option maxRecDepth 100000
theorem By.weak {w : World} {M M' : Nat → Prop} {A : Option Addr} {n : Nat} {l : List UInt8} (h : By w M A n l) (hM : ∀ k, M' k → M k) : By w M' A n l :=
  ⟨h.1, fun hn => by
    obtain ⟨b, o, e, hb, hm, hc⟩ := h.2 hn
    exact ⟨b, o, e, hb, fun h' => hm (hM _ h'), hc⟩⟩
/-- A value that is a slice of bytes, and what it reads as. -/
def Sl (w : World) (M : Nat → Prop) (v : Value) (l : List UInt8) : Prop :=
  (∃ A, v = .slice A 0 0 ∧ l = []) ∨ ∃ b o c, v = .slice (some ⟨b, o, none⟩) l.length c ∧ l.length ≤ c ∧ b < w.heap.size ∧ By w M (some ⟨b, o, none⟩) l.length l
/-- A block of bytes. -/
def U8 (w : World) (b : Nat) : Prop := b < w.heap.size ∧ ∃ (cur : Array Value) (_ : Unit), w.heap[b]? = some (.cells cur 5 (0, 0))
theorem U8.same {w w' : World} {b : Nat} (h : U8 w b) (hs : w.heap.size ≤ w'.heap.size) (hb : w'.heap[b]? = w.heap[b]?) : U8 w' b := by
  obtain ⟨h1, cur, fr, e⟩ := h
  exact ⟨Nat.lt_of_lt_of_le h1 hs, cur, fr, hb.trans e⟩
/-- .. whose capacity is its length. -/
def Slc (w : World) (M : Nat → Prop) (v : Value) (l : List UInt8) : Prop :=
  (v = .slice none 0 0 ∧ l = []) ∨ ∃ b o, v = .slice (some ⟨b, o, none⟩) l.length l.length ∧ l.length ≤ maxLen ∧ U8 w b ∧ ¬ M b ∧ By w M (some ⟨b, o, none⟩) l.length l
section
variable {w w' : World} {M M' : Nat → Prop} {v : Value} {l : List UInt8}
theorem Slc.sl (h : Slc w M v l) : Sl w M v l := by
  rcases h with ⟨h, h'⟩ | ⟨b, o, e, h1, h2, _, h3⟩
  · exact .inl ⟨none, h, h'⟩
  · exact .inr ⟨b, o, _, e, Nat.le_refl _, h2.1, h3⟩
theorem Slc.step (h : Slc w M v l) (hs : Step M M' w w') : Slc w' M' v l := by
  rcases h with h | ⟨b, o, e, h1, h2, hm, h3⟩
  · exact .inl h
  · exact .inr ⟨b, o, e, h1, h2.same hs.size (hs.block b h2.1 hm), fun h => hm (hs.sub b h2.1 h), h3.step hs⟩
theorem Sl.step (h : Sl w M v l) (hs : Step M M' w w') : Sl w' M' v l := by
  rcases h with h | ⟨b, o, c, e, h0, h2, h3⟩
  · exact .inl h
  · exact .inr ⟨b, o, c, e, h0, Nat.lt_of_lt_of_le h2 hs.size, h3.step hs⟩
theorem Sl.weak (h : Sl w M v l) (hM : ∀ k, M' k → M k) : Sl w M' v l := by
  rcases h with h | ⟨b, o, c, e, h0, h2, h3⟩
  · exact .inl h
  · exact .inr ⟨b, o, c, e, h0, h2, h3.weak hM⟩
theorem Slc.weak (h : Slc w M v l) (hM : ∀ k, M' k → M k) : Slc w M' v l := by
  rcases h with h | ⟨b, o, e, h1, h2, hm, h3⟩
  · exact .inl h
  · exact .inr ⟨b, o, e, h1, h2, fun h => hm (hM b h), h3.weak hM⟩
theorem Sl.nil_ : Sl w M (.slice none 0 0) [] := .inl ⟨none, rfl, rfl⟩
theorem Slc.nil_ : Slc w M (.slice none 0 0) [] := .inl ⟨rfl, rfl⟩
theorem Sl.by (h : Sl w M v l) : ∃ A c, v = .slice A l.length c ∧ l.length ≤ c ∧ By w M A l.length l := by
  rcases h with ⟨A, rfl, rfl⟩ | ⟨b, o, c, rfl, h0, _, h3⟩
  · exact ⟨A, 0, rfl, Nat.le_refl _, By.nil_⟩
  · exact ⟨_, c, rfl, h0, h3⟩
end
theorem clipB_any (A : Addr) (n c : Nat) (w : World) (hc : n ≤ c) :
    Calls Tryz.prog 18 #[.slice (some A) n c] w fun e w' => e = .returned (.slice (some A) n n) ∧ w = w' := by
  go_enter Tryz.func18, Tryz.ntmps18
  go_wp2
  go_ret
  exact ⟨rfl, rfl⟩
theorem clipB_nil (w : World) :
    Calls Tryz.prog 18 #[.slice none 0 0] w fun e w' => e = .returned (.slice none 0 0) ∧ w = w' := by
  go_enter Tryz.func18, Tryz.ntmps18
  go_wp2
  go_ret
  exact ⟨rfl, rfl⟩
theorem cloneB_nil (w : World) :
    Calls Tryz.prog 19 #[.slice none 0 0] w fun e w' => e = .returned (.slice none 0 0) ∧ w = w' := by
  have hq := fun w => run_eql_slice_nil (P := Tryz.prog) w 27 5 none 0 0 Tryz.underlying27
  go_enter Tryz.func19, Tryz.ntmps19
  go_wp2
  go_ret
  exact ⟨rfl, rfl⟩
theorem cloneB_at (a : Addr) (c : Nat) (w : World) (M : Nat → Prop) (l : List UInt8) (h : By w M (some a) l.length l) (hl : l.length ≤ 90000000) :
    Calls Tryz.prog 19 #[.slice (some a) l.length c] w fun e w' => ∃ g cap, e = .returned (.slice (some ⟨g, 0, none⟩) l.length cap) ∧ l.length ≤ cap ∧ w.heap.size ≤ g ∧ U8 w' g ∧ By w' (· < w.heap.size) (some ⟨g, 0, none⟩) l.length l ∧ Below w.heap.size w w' := by
  have H := Lib.hid h
  clear h
  have hq := fun w => run_eql_slice_nil (P := Tryz.prog) w 27 5 (some a) l.length c Tryz.underlying27
  go_enter Tryz.func19, Tryz.ntmps19
  have hrow : (w.alloc (.cells #[] 5)).ownsRow w.heap.size 5 1 (.slice (some ⟨w.heap.size, 0, none⟩) 0 0) 0 (u8s []) := World.ownsRow_made w #[] 0 (Nat.le_refl _) (Nat.zero_le _) rfl
  go_wp2_with (refine wpList_app_by rfl _ _ rfl w.heap.size (.slice (some ⟨w.heap.size, 0, none⟩) 0 0) 0 [] rfl hrow M (some a) l.length c l rfl (H.out.alloc _) (by omega) (by simp) ?_)
  intro v' w' hown hg hat hnil
  have hb : Below w.heap.size w w' := ((Below.refl _ _).alloc (Nat.le_refl _) _).grown hg (by simp) (fun k e => by cases e; exact Nat.le_refl _)
  rcases hown.2 with ⟨rfl, _⟩ | ⟨g, cap, cur, rfl, hbase, hbk, h1, h2, h3, h4⟩
  · exact (hnil rfl).elim
  · obtain ⟨A', c', e, hc', hby⟩ := ownsRow_by hown (M := (· < w.heap.size)) (fun k hk => hk)
    injection e with e1 e2 e3
    subst e1 e3
    have HBy := Lib.hid hby
    have HB := Lib.hid hb
    have hgl : U8 w' g := ⟨(Array.getElem?_eq_some_iff.1 hbk).1, cur, (), hbk⟩
    clear hown hg hat hnil hby hb hbk h3 h4 hq hrow
    go_wp2_with fail
    go_ret
    exact ⟨g, cap, rfl, h1, hbase, hgl, HBy.out, HB.out⟩
theorem cloneB_any (b o c : Nat) (w : World) (M : Nat → Prop) (l : List UInt8) (h : By w M (some ⟨b, o, none⟩) l.length l) (hl : l.length ≤ 90000000) :
    Calls Tryz.prog 19 #[.slice (some ⟨b, o, none⟩) l.length c] w fun e w' => ∃ g cap, e = .returned (.slice (some ⟨g, 0, none⟩) l.length cap) ∧ l.length ≤ cap ∧ w.heap.size ≤ g ∧ U8 w' g ∧ By w' (· < w.heap.size) (some ⟨g, 0, none⟩) l.length l ∧ Below w.heap.size w w' :=
  cloneB_at ⟨b, o, none⟩ c w M l h hl
/-- A' is the part from i to j of a slice of n bytes at A. -/
def Part (A : Option Addr) (n i j : Nat) (A' : Option Addr) : Prop := (∀ (w : World) (M : Nat → Prop) (l : List UInt8), By w M A n l → By w M A' (j - i) ((l.take j).drop i)) ∧ (∀ b o, A = some ⟨b, o, none⟩ → ∃ o', A' = some ⟨b, o', none⟩) ∧ (A = none → A' = none) ∧ (∀ a, A = some a → ∃ a', A' = some a') ∧ ∀ b o, A = some ⟨b, o, none⟩ → i < j → A' = some ⟨b, o + i, none⟩
theorem Part.out {A A' : Option Addr} {n i j : Nat} (h : Part A n i j A') (w : World) (M : Nat → Prop) (l : List UInt8) (hb : By w M A n l) : By w M A' (j - i) ((l.take j).drop i) := h.1 w M l hb
theorem run_slice_by {w : World} {A : Option Addr} {n c : Nat} (i j : Nat) (hij : i ≤ j) (hj : j ≤ n) (hc : n ≤ c) (low high : Option Value)
    (hlow : low = some (.int .i64 i) ∨ (low = none ∧ i = 0)) (hhigh : high = some (.int .i64 j) ∨ (high = none ∧ j = n)) :
    ∃ A', (Instr.sliceAt 27 (.slice A n c) low high none).run Tryz.prog w = .ok (.slice A' (j - i) (c - i)) w ∧ Part A n i j A' := by
  have hb : (Instr.sliceBounds true n c low high none).run Tryz.prog w = .ok (i, j, c) w := by
    have e1 : (0 : Int) ≤ (i : Int) := by omega
    have e2 : (i : Int) ≤ (j : Int) := by omega
    have e3 : (j : Int) ≤ (c : Int) := by omega
    have e0 : (0 : Int) ≤ (j : Int) := by omega
    rcases hlow with rfl | ⟨rfl, rfl⟩ <;> rcases hhigh with rfl | ⟨rfl, rfl⟩
    · simp [Instr.sliceBounds, run_sliceBound _ _ _ _ _ e1 e2, run_sliceBound _ _ _ _ _ e0 e3]
    · simp [Instr.sliceBounds, run_sliceBound _ _ _ _ _ e1 e2]
    · simp [Instr.sliceBounds, run_sliceBound _ _ _ _ _ e0 e3]
    · simp [Instr.sliceBounds]
  have hsz : (sizeOf (Tryz.prog.elem 27)).run Tryz.prog w = .ok 1 w := by kernel_rfl
  have hrun : (Instr.sliceAt 27 (.slice A n c) low high none).run Tryz.prog w = .ok (sliced A i j c 1) w := by
    rw [run_sliceAt_slice _ _ _ _ _ _ Tryz.underlying27, run_slice_any _ _ _ _ _ Tryz.underlying27, hb]
    simp [Result.andThen, hsz]
  refine ⟨_, hrun, ?_⟩
  rw [Nat.mul_one]
  refine ⟨fun w M l h => ?_, fun b o e => by subst e; split <;> simp [add_mk], fun e => by subst e; split <;> rfl, fun a e => by subst e; split <;> exact ⟨_, rfl⟩, fun b o e h => by subst e; split <;> first | (exfalso; omega) | simp [add_mk]⟩
  refine ⟨by rw [List.length_drop, List.length_take, h.1]; omega, fun hn => ?_⟩
  obtain ⟨b, o, rfl, hb', hM, hcl⟩ := h.2 (by omega)
  rw [if_neg (by omega)]
  refine ⟨b, o + i, by simp [add_mk], hb', hM, fun k hk => ?_⟩
  rw [List.length_drop, List.length_take, h.1] at hk
  rw [Nat.add_assoc, hcl (i + k) (by rw [h.1]; omega)]
  simp
section
variable {w : World} {ops : Array Oper} {rest : List Oper} {o : Oper} {a : Act} {Q : Exit → Act → World → Prop}
theorem wpList_slice_by (hg : Region.wanted o (yielded ops a.tmps) = true) (x : Operand) (lo hi : Option Operand) (hop : o.op = Op.slice 27 x lo hi none) (A : Option Addr) (n c : Nat) (hx : a.eval x = .slice A n c)
    (i j : Nat) (hij : i ≤ j) (hj : j ≤ n) (hc : n ≤ c) (hlow : lo.map a.eval = some (.int .i64 i) ∨ (lo.map a.eval = none ∧ i = 0)) (hhigh : hi.map a.eval = some (.int .i64 j) ∨ (hi.map a.eval = none ∧ j = n))
    (hK : ∀ A', Part A n i j A' → wpList Tryz.prog ops Q rest (a.put o.dst (.slice A' (j - i) (c - i))) w) : wpList Tryz.prog ops Q (o :: rest) a w := by
  refine wpList_want hg fun K' hK' => ?_
  obtain ⟨A', hrun, hby⟩ := run_slice_by (w := w) (A := A) i j hij hj hc _ _ hlow hhigh
  unfold Oper.wp
  simp only [execOp, hop, hx, Option.map_none, Sem.run_bind, hrun, Result.andThen]
  exact hK' _ _ (hK A' hby)
theorem wpList_from (hg : Region.wanted o (yielded ops a.tmps) = true) (x lo : Operand) (hop : o.op = Op.slice 27 x (some lo) none none) (A : Option Addr) (n c : Nat) (hx : a.eval x = .slice A n c) (i : Nat) (hlo : a.eval lo = .int .i64 i) (hi : i ≤ n) (hc : n ≤ c)
    (hK : ∀ A', Part A n i n A' → wpList Tryz.prog ops Q rest (a.put o.dst (.slice A' (n - i) (c - i))) w) : wpList Tryz.prog ops Q (o :: rest) a w :=
  wpList_slice_by hg x (some lo) none hop A n c hx i n hi (Nat.le_refl _) hc (.inl (congrArg some hlo)) (.inr ⟨rfl, rfl⟩) hK
theorem wpList_to (hg : Region.wanted o (yielded ops a.tmps) = true) (x hi : Operand) (hop : o.op = Op.slice 27 x none (some hi) none) (A : Option Addr) (n c : Nat) (hx : a.eval x = .slice A n c) (j : Nat) (hhi : a.eval hi = .int .i64 j) (hj : j ≤ n) (hc : n ≤ c)
    (hK : ∀ A', Part A n 0 j A' → wpList Tryz.prog ops Q rest (a.put o.dst (.slice A' j c)) w) : wpList Tryz.prog ops Q (o :: rest) a w :=
  wpList_slice_by hg x none (some hi) hop A n c hx 0 j (Nat.zero_le _) hj hc (.inr ⟨rfl, rfl⟩) (.inl (congrArg some hhi)) hK
theorem wpList_part (hg : Region.wanted o (yielded ops a.tmps) = true) (x lo hi : Operand) (hop : o.op = Op.slice 27 x (some lo) (some hi) none) (A : Option Addr) (n c : Nat) (hx : a.eval x = .slice A n c) (i j : Nat) (hlo : a.eval lo = .int .i64 i) (hhi : a.eval hi = .int .i64 j) (hij : i ≤ j) (hj : j ≤ n) (hc : n ≤ c)
    (hK : ∀ A', Part A n i j A' → wpList Tryz.prog ops Q rest (a.put o.dst (.slice A' (j - i) (c - i))) w) : wpList Tryz.prog ops Q (o :: rest) a w :=
  wpList_slice_by hg x (some lo) (some hi) hop A n c hx i j hij hj hc (.inl (congrArg some hlo)) (.inl (congrArg some hhi)) hK
theorem run_str_by {A : Option Addr} {n c : Nat} {l : List UInt8} {M : Nat → Prop} (h : By w M A n l) : (convert 27 9 (.slice A n c)).run Tryz.prog w = .ok (.string ⟨l.toArray⟩) w := by
  rcases Nat.eq_zero_or_pos n with h0 | h0
  · subst h0
    obtain rfl : l = [] := List.eq_nil_of_length_eq_zero h.1
    rw [run_convert_bytes_string w 27 9 5 A 0 c Tryz.underlying27 Tryz.underlying5 Tryz.underlying9]
    cases A <;> rfl
  · obtain ⟨ad, rfl, _, _, hcl⟩ := h.at_ h0
    have e := h.1
    subst e
    exact run_convert_bytes_back w 27 9 5 ad c l Tryz.underlying27 Tryz.underlying5 Tryz.underlying9 hcl
theorem wpList_str_by (hg : Region.wanted o (yielded ops a.tmps) = true) (x : Operand) (hop : o.op = Op.convert 27 9 x) {M : Nat → Prop} (A : Option Addr) (n c : Nat) {l : List UInt8} (hx : a.eval x = .slice A n c) (h : By w M A n l)
    (hK : wpList Tryz.prog ops Q rest (a.put o.dst (.string ⟨l.toArray⟩)) w) : wpList Tryz.prog ops Q (o :: rest) a w := by
  refine wpList_want hg fun K' hK' => ?_
  have hrun := run_str_by (c := c) h
  unfold Oper.wp
  simp only [execOp, hop, hx, Sem.run_bind, hrun, Result.andThen]
  exact hK' _ _ hK
end
end Go.Proofs.YtojmckbpafkagaaGreatDoor
