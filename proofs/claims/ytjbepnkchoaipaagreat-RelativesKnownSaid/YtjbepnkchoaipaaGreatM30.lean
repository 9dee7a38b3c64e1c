import Derived.Test.YtjbepnkchoaipaaGreatM00
import Derived.Test.YtjbepnkchoaipaaGreatM27
import Derived.Test.YtjbepnkchoaipaaGreatM26
import Derived.Test.YtjbepnkchoaipaaGreatM23
import Derived.Test.YtjbepnkchoaipaaGreatM22
import Derived.Test.YtjbepnkchoaipaaGreatM13
import Derived.Test.YtjbepnkchoaipaaGreatM21
import Derived.Test.YtjbepnkchoaipaaGreatM28
import Derived.Test.YtjbepnkchoaipaaGreatM29
set_option linter.unusedVariables false
set_option linter.unusedSimpArgs false
/- Law 31, plain: what a file is in the contents of a store. -/
namespace Go.Proofs.YtjbepnkchoaipaaGreat
namespace R
abbrev B := J.B
/-- A number in four bytes, the greatest first. -/
def be4 (n : Nat) : B := [UInt8.ofNat (n / 16777216), UInt8.ofNat (n / 65536), UInt8.ofNat (n / 256), UInt8.ofNat n]
theorem be4_len (n : Nat) : (be4 n).length = 4 := rfl
/-- The number in four bytes. -/
def val4 : B → Nat
  | [a, b, c, d] => a.toNat * 16777216 + b.toNat * 65536 + c.toNat * 256 + d.toNat
  | _ => 0
theorem val4_be4 {n : Nat} (h : n < 4294967296) : val4 (be4 n) = n := by
  simp only [be4, val4, UInt8.toNat_ofNat']
  omega
theorem be4_inj {a b : Nat} (ha : a < 4294967296) (hb : b < 4294967296) (h : be4 a = be4 b) : a = b := by
  rw [← val4_be4 ha, ← val4_be4 hb, h]
theorem u8_lt {a b : UInt8} : a < b ↔ a.toNat < b.toNat := UInt8.lt_iff_toNat_lt
theorem cons_lt {a b : UInt8} {s t : B} : (a :: s) < (b :: t) ↔ a < b ∨ a = b ∧ s < t := List.cons_lt_cons_iff
theorem le4 {a b : Nat} {x0 x1 x2 x3 y0 y1 y2 y3 : Nat} (h1 : x1 < 256) (h2 : x2 < 256) (h3 : x3 < 256) (k1 : y1 < 256) (k2 : y2 < 256) (k3 : y3 < 256)
    (ha : a = x0 * 16777216 + x1 * 65536 + x2 * 256 + x3) (hb : b = y0 * 16777216 + y1 * 65536 + y2 * 256 + y3) :
    (x0 < y0 ∨ x0 = y0 ∧ (x1 < y1 ∨ x1 = y1 ∧ (x2 < y2 ∨ x2 = y2 ∧ x3 < y3))) ↔ a < b := by
  omega
theorem be4_lt {a b : Nat} (ha : a < 4294967296) (hb : b < 4294967296) : be4 a < be4 b ↔ a < b := by
  have hn : ¬ (([] : B) < []) := List.lt_irrefl _
  simp only [be4, cons_lt, u8_lt, ← UInt8.toNat_inj, UInt8.toNat_ofNat', hn, and_false, or_false]
  exact le4 (by omega) (by omega) (by omega) (by omega) (by omega) (by omega) (by omega) (by omega)
theorem app_lt (p : B) {s t : B} : p ++ s < p ++ t ↔ s < t := by
  induction p with
  | nil => rfl
  | cons a p ih =>
    rw [List.cons_append, List.cons_append, cons_lt, ih]
    have : ¬ a < a := by simp
    simp [this]
/-- The key of the attributes, and of a record. -/
def own (nm : B) : B := nm ++ [0, 65]
def recs (nm : B) : B := nm ++ [0, 82]
def key (nm : B) (n : Nat) : B := recs nm ++ be4 n
theorem own_len (nm : B) : (own nm).length = nm.length + 2 := by simp [own]
theorem key_len (nm : B) (n : Nat) : (key nm n).length = nm.length + 6 := by simp [key, recs, be4_len]
theorem key_lt {nm : B} {a b : Nat} (ha : a < 4294967296) (hb : b < 4294967296) : key nm a < key nm b ↔ a < b := by
  unfold key; rw [app_lt, be4_lt ha hb]
theorem own_lt_key (nm : B) (n : Nat) : own nm < key nm n := by
  unfold own key recs
  rw [List.append_assoc, app_lt]
  show ([0, 65] : B) < 0 :: 82 :: be4 n
  rw [cons_lt]; right; refine ⟨rfl, ?_⟩
  rw [cons_lt]; left; decide
theorem key_inj {nm : B} {a b : Nat} (ha : a < 4294967296) (hb : b < 4294967296) (h : key nm a = key nm b) : a = b := be4_inj ha hb (List.append_cancel_left h)
theorem own_ne_key (nm : B) (n : Nat) : own nm ≠ key nm n := fun e => by have := own_lt_key nm n; rw [e] at this; exact List.lt_irrefl _ this
/-- The bytes of attributes. -/
def attr (rel : Bool) (size : Nat) : B := (if rel then 1 else 0) :: be4 size
/-- Records by their numbers, ascending. -/
abbrev Rows := List (Nat × B)
def rowOf (nm : B) (r : Nat × B) : B × B := (key nm r.1, r.2)
/-- The contents of a store with one file. -/
def fmap (nm : B) (a : Option B) (rows : Rows) : List (B × B) := match a with
  | none => []
  | some a => (own nm, a) :: rows.map (rowOf nm)
structure RowsOk (rows : Rows) : Prop where
  asc : rows.Pairwise fun a b => a.1 < b.1
  pos : ∀ r ∈ rows, 1 ≤ r.1 ∧ r.1 ≤ 65536
def look : Rows → Nat → Option B
  | [], _ => none
  | r :: t, n => if r.1 = n then some r.2 else look t n
def del (rows : Rows) (n : Nat) : Rows := rows.filter fun r => !(r.1 == n)
def put (rows : Rows) (n : Nat) (b : B) : Rows := (del rows n).takeWhile (fun r => decide (r.1 < n)) ++ (n, b) :: (del rows n).dropWhile (fun r => decide (r.1 < n))
theorem look_rows (nm : B) : ∀ (rows : Rows) (n : Nat), (∀ r ∈ rows, r.1 < 4294967296) → n < 4294967296 → J.look (rows.map (rowOf nm)) (key nm n) = look rows n
  | [], _, _, _ => rfl
  | r :: t, n, h, hn => by
    have ih := look_rows nm t n (fun x hx => h x (List.mem_cons_of_mem _ hx)) hn
    show (if key nm r.1 = key nm n then some r.2 else J.look (t.map (rowOf nm)) (key nm n)) = if r.1 = n then some r.2 else look t n
    by_cases e : r.1 = n
    · rw [if_pos e, if_pos (by rw [e])]
    · rw [if_neg e, if_neg (fun hh => e (key_inj (h r List.mem_cons_self) hn hh)), ih]
theorem look_own (nm a : B) (rows : Rows) : J.look (fmap nm (some a) rows) (own nm) = some a := by
  show (if own nm = own nm then some a else _) = _
  rw [if_pos rfl]
theorem look_own_none (nm : B) (rows : Rows) : J.look (fmap nm none rows) (own nm) = none := rfl
theorem look_key {nm a : B} {rows : Rows} (h : RowsOk rows) {n : Nat} (hn : n < 4294967296) : J.look (fmap nm (some a) rows) (key nm n) = look rows n := by
  show (if own nm = key nm n then some a else _) = _
  rw [if_neg (own_ne_key nm n)]
  exact look_rows nm rows n (fun r hr => by have := (h.pos r hr).2; omega) hn
theorem look_none_of {rows : Rows} {n : Nat} (h : ∀ r ∈ rows, r.1 ≠ n) : look rows n = none := by
  induction rows with
  | nil => rfl
  | cons r t ih => rw [look, if_neg (h r List.mem_cons_self), ih (fun x hx => h x (List.mem_cons_of_mem _ hx))]
theorem asc_fmap {nm a : B} {rows : Rows} (h : RowsOk rows) : J.Asc (fmap nm (some a) rows) := by
  unfold J.Asc fmap
  rw [List.pairwise_cons]
  refine ⟨fun p hp => ?_, ?_⟩
  · obtain ⟨r, _, rfl⟩ := List.mem_map.1 hp
    exact own_lt_key nm r.1
  · rw [List.pairwise_map]
    refine List.Pairwise.imp_of_mem (fun {x y} hx hy hxy => ?_) h.asc
    exact (key_lt (by have := (h.pos x hx).2; omega) (by have := (h.pos y hy).2; omega)).2 hxy
theorem del_key {nm a : B} {rows : Rows} (h : RowsOk rows) {n : Nat} (hn : n < 4294967296) : J.del (fmap nm (some a) rows) (key nm n) = fmap nm (some a) (del rows n) := by
  unfold J.del fmap del
  rw [List.filter_cons_of_pos (by simpa using own_ne_key nm n), List.filter_map]
  congr 2
  refine List.filter_congr fun r hr => ?_
  have hr2 := (h.pos r hr).2
  show (!(key nm r.1 == key nm n)) = !(r.1 == n)
  by_cases e : r.1 = n
  · subst e
    rw [beq_self_eq_true, beq_self_eq_true]
  · have : key nm r.1 ≠ key nm n := fun hh => e (key_inj (by omega) hn hh)
    rw [beq_eq_false_iff_ne.2 this, beq_eq_false_iff_ne.2 e]
theorem mem_del {rows : Rows} {n : Nat} {r : Nat × B} (h : r ∈ del rows n) : r ∈ rows ∧ r.1 ≠ n := by
  have := List.mem_filter.1 h
  exact ⟨this.1, by simpa using this.2⟩
theorem while_rows (nm : B) {n : Nat} (hn : n < 4294967296) : ∀ (rows : Rows), (∀ r ∈ rows, r.1 < 4294967296) →
    (rows.map (rowOf nm)).takeWhile (fun p => decide (p.1 < key nm n)) = (rows.takeWhile fun r => decide (r.1 < n)).map (rowOf nm) ∧ (rows.map (rowOf nm)).dropWhile (fun p => decide (p.1 < key nm n)) = (rows.dropWhile fun r => decide (r.1 < n)).map (rowOf nm)
  | [], _ => ⟨rfl, rfl⟩
  | r :: t, h => by
    obtain ⟨h1, h2⟩ := while_rows nm hn t (fun x hx => h x (List.mem_cons_of_mem _ hx))
    have hk : ((rowOf nm r).1 < key nm n) ↔ r.1 < n := key_lt (h r List.mem_cons_self) hn
    rw [List.map_cons, List.takeWhile_cons, List.dropWhile_cons, List.takeWhile_cons, List.dropWhile_cons]
    by_cases e : r.1 < n
    · have e' := hk.2 e
      simp only [e, e', decide_true, if_true]
      exact ⟨by rw [h1, List.map_cons], h2⟩
    · have e' : ¬ (rowOf nm r).1 < key nm n := fun x => e (hk.1 x)
      rw [if_neg (by simpa using e'), if_neg (by simpa using e), if_neg (by simpa using e'), if_neg (by simpa using e)]
      exact ⟨rfl, rfl⟩
theorem ins_key {nm a b : B} {rows : Rows} (h : RowsOk rows) {n : Nat} (hn : n < 4294967296) : J.ins (fmap nm (some a) rows) (key nm n) b = fmap nm (some a) (put rows n b) := by
  unfold J.ins
  rw [del_key h hn]
  obtain ⟨h1, h2⟩ := while_rows nm hn (del rows n) (fun r hr => by have := (h.pos r (mem_del hr).1).2; omega)
  have ho := own_lt_key nm n
  unfold fmap
  rw [List.takeWhile_cons, List.dropWhile_cons]
  simp only [ho, decide_true, if_true]
  rw [h1, h2]
  unfold put
  rw [List.map_append, List.map_cons]
  rfl
end R
end Go.Proofs.YtjbepnkchoaipaaGreat
/- Law 31: a store of the law's own, and what its methods do, in one word each. -/
namespace Go.Proofs.YtjbepnkchoaipaaGreat
open Go.RowKit Go.Lib Go.Maps Go.WideMaps Go.Sort
set_option maxRecDepth 100000
theorem enc_key (k : J.B) (h : k ≠ []) : (⟨k.toArray⟩ : ByteArray).toList ≠ [] := by rw [ByteArray.toList_eq]; simpa using h
theorem enc_size (k : J.B) : (⟨k.toArray⟩ : ByteArray).size = k.length := by simp [ByteArray.size]
namespace J
/-- The writes of a store. -/
structure WOk (s : St) : Prop where
  sum : s.logged = (s.writes.map fun w => w.bs.length).sum
  wr : ∀ w ∈ s.writes, w.kind ≤ 2 ∧ w.idx ≤ 1 ∧ (w.kind ≠ 1 → 0 < w.bs.length)
  h0 : s.base.h0.length ≤ 8388608
  h1 : s.base.h1.length ≤ 8388608
  a0 : s.base.a0.length ≤ 8388608
  a1 : s.base.a1.length ≤ 8388608
end J
theorem commit_anyfit (p : Nat) (M : Nat → Prop) (s : J.St) (w : World) (h : StoreR w p M s) (ho : s.opn = true) (hsp : s.spoilt = false) (hs : CSmall s s.was) (hcm : s.commits + 1 < 4294967296) (har : s.area ≤ 1) (hfit : (s.disk.area s.area).length + (J.record 0 (s.commits + 1) s.changes).length ≤ 4194304) :
    Calls Tryz.prog 70 #[.pointer (some ⟨p, 0, none⟩)] w fun e w' => e = .returned (.tuple #[.int .i64 (J.commit s).2.1, .int .i64 (J.commit s).2.2]) ∧ ∃ M', StoreR w' p M' (J.commit s).1 ∧ Step M M' w w' := by
  by_cases h0 : s.area = 0
  · exact commit_fit0 p M s w h ho hsp hs hcm h0 (by rw [area_eq0 h0] at hfit; exact hfit)
  · have h1 : s.area = 1 := by omega
    exact commit_fit1 p M s w h ho hsp hs hcm h1 (by rw [area_eq1 h1] at hfit; exact hfit)
/-- Blocks that are none of a store's: they are new since w0, and lie in w. -/
def Kp (w0 : World) (M : Nat → Prop) (fs : List (Nat × Obj)) (w : World) : Prop := ∀ x ∈ fs, w0.heap.size ≤ x.1 ∧ ¬ M x.1 ∧ w.heap[x.1]? = some x.2
/-- A store whose blocks are new since w0; nothing that lay in w0 has turned; other blocks that lie there. -/
def At (w0 : World) (p : Nat) (fs : List (Nat × Obj)) (s : J.St) (w : World) : Prop := ∃ M, StoreR w p M s ∧ (∀ k, M k → w0.heap.size ≤ k ∧ k < w.heap.size) ∧ Below w0.heap.size w0 w ∧ Kp w0 M fs w
section
variable {w0 w w' : World} {p : Nat} {s s' : J.St} {fs : List (Nat × Obj)}
theorem At.bel (h : At w0 p fs s w) : Below w0.heap.size w0 w := h.elim fun _ h => h.2.2.1
theorem At.get (h : At w0 p fs s w) {x : Nat × Obj} (hx : x ∈ fs) : w.heap[x.1]? = some x.2 := h.elim fun _ h => (h.2.2.2 x hx).2.2
theorem At.below (h : At w0 p fs s w) (hb : Below w.heap.size w w') : At w0 p fs s w' := by
  obtain ⟨M, h1, h2, h3, h4⟩ := h
  exact ⟨M, h1.below hb, fun k hk => ⟨(h2 k hk).1, Nat.lt_of_lt_of_le (h2 k hk).2 hb.size⟩, h3.trans (hb.mono h3.size), fun x hx => ⟨(h4 x hx).1, (h4 x hx).2.1, (hb.block x.1 (Array.getElem?_eq_some_iff.1 (h4 x hx).2.2).1).trans (h4 x hx).2.2⟩⟩
theorem At.step {M M' : Nat → Prop} (h1 : ∀ k, M k → w0.heap.size ≤ k ∧ k < w.heap.size) (h2 : Below w0.heap.size w0 w ∧ Kp w0 M fs w) (hst : StoreR w' p M' s') (hs : Step M M' w w') : At w0 p fs s' w' := by
  obtain ⟨h2, h4⟩ := h2
  refine ⟨fun k => M' k ∧ k < w'.heap.size, hst.cap, fun k hk => ⟨?_, hk.2⟩, below_tr h2 (hs.below h2.size (fun k hk => (h1 k hk).1)), fun x hx => ?_⟩
  · by_cases hw : k < w.heap.size
    · exact (h1 k (hs.sub k hw hk.1)).1
    · have := h2.size; omega
  · obtain ⟨g1, g2, g3⟩ := h4 x hx
    have hlt := (Array.getElem?_eq_some_iff.1 g3).1
    exact ⟨g1, fun h => g2 (hs.sub x.1 hlt h.1), (hs.block x.1 hlt g2).trans g3⟩
/-- Fewer blocks. -/
theorem At.less {gs : List (Nat × Obj)} (h : At w0 p fs s w) (hg : ∀ x ∈ gs, x ∈ fs) : At w0 p gs s w := by
  obtain ⟨M, h1, h2, h3, h4⟩ := h
  exact ⟨M, h1, h2, h3, fun x hx => h4 x (hg x hx)⟩
/-- A new block. -/
theorem At.more (h : At w0 p fs s w) (o : Obj) : At w0 p ((w.heap.size, o) :: fs) s (w.alloc o) := by
  have h' := h.below ((Below.refl _ w).alloc (Nat.le_refl _) o)
  obtain ⟨M, h1, h2, h3, h4⟩ := h
  have hb : Below w.heap.size w (w.alloc o) := (Below.refl _ w).alloc (Nat.le_refl _) o
  refine ⟨M, h1.below hb, fun k hk => ⟨(h2 k hk).1, Nat.lt_of_lt_of_le (h2 k hk).2 hb.size⟩, h3.trans (hb.mono h3.size), fun x hx => ?_⟩
  rcases List.mem_cons.1 hx with rfl | hx
  · exact ⟨h3.size, fun hm => by have := (h2 _ hm).2; simp at this, heap_alloc_new _ _⟩
  · exact ⟨(h4 x hx).1, (h4 x hx).2.1, (hb.block x.1 (Array.getElem?_eq_some_iff.1 (h4 x hx).2.2).1).trans (h4 x hx).2.2⟩
/-- Blocks that are newer than the store. -/
theorem At.add (h : At w0 p fs s w) (hb : Below w.heap.size w w') {gs : List (Nat × Obj)} (hg : ∀ x ∈ gs, w.heap.size ≤ x.1 ∧ w'.heap[x.1]? = some x.2) : At w0 p (gs ++ fs) s w' := by
  obtain ⟨M, h1, h2, h3, h4⟩ := h
  refine ⟨M, h1.below hb, fun k hk => ⟨(h2 k hk).1, Nat.lt_of_lt_of_le (h2 k hk).2 hb.size⟩, h3.trans (hb.mono h3.size), fun x hx => ?_⟩
  rcases List.mem_append.1 hx with hx | hx
  · exact ⟨Nat.le_trans h3.size (hg x hx).1, fun hm => by have := (h2 _ hm).2; have := (hg x hx).1; omega, (hg x hx).2⟩
  · exact ⟨(h4 x hx).1, (h4 x hx).2.1, (hb.block x.1 (Array.getElem?_eq_some_iff.1 (h4 x hx).2.2).1).trans (h4 x hx).2.2⟩
/-- A block turns. -/
theorem At.turn {b : Nat} {o o' : Obj} (h : At w0 p ((b, o) :: fs) s w) (hf : ∀ x ∈ fs, x.1 ≠ b) (ht : J.Two s) (hn : NoBy w b) (hg : w.grownBy w' (some b)) (hr : w'.heap[b]? = some o') : At w0 p ((b, o') :: fs) s w' := by
  obtain ⟨M, h1, h2, h3, h4⟩ := h
  obtain ⟨g1, g2, g3⟩ := h4 _ List.mem_cons_self
  refine ⟨M, h1.oth ht (Oth.of_grown hg (fun k e => by injection e with e; subst e; exact ⟨g2, hn⟩)), fun k hk => ⟨(h2 k hk).1, Nat.lt_of_lt_of_le (h2 k hk).2 hg.size⟩, h3.grown hg h3.size (fun k e => by injection e with e; subst e; exact g1), fun x hx => ?_⟩
  rcases List.mem_cons.1 hx with rfl | hx
  · exact ⟨g1, g2, hr⟩
  · obtain ⟨k1, k2, k3⟩ := h4 x (List.mem_cons_of_mem _ hx)
    exact ⟨k1, k2, (hg.block x.1 (Array.getElem?_eq_some_iff.1 k3).1 (fun e => hf x hx (by injection e))).trans k3⟩
theorem at_new (w0 w : World) (hb : Below w0.heap.size w0 w) : Calls Tryz.prog 8 #[] w fun e w' => ∃ p, e = .returned (.pointer (some ⟨p, 0, none⟩)) ∧ At w0 p [] J.new w' := by
  refine (new_any w).mono ?_
  rintro e w' ⟨p, M, rfl, hst, hM, hb2⟩
  exact ⟨p, rfl, fun k => M k ∧ k < w'.heap.size, hst.cap, fun k hk => ⟨Nat.le_trans hb.size (hM k hk.1), hk.2⟩, hb.trans (hb2.mono hb.size), fun x hx => by cases hx⟩
theorem at_begin (h : At w0 p fs s w) (ho : s.opn = false) : Calls Tryz.prog 24 #[.pointer (some ⟨p, 0, none⟩)] w fun e w' => e = .returned (.int .i64 0) ∧ At w0 p fs (J.begin_ s) w' := by
  obtain ⟨M, h1, h2, h3⟩ := h
  refine (begin_any p M s w h1 ho).mono ?_
  rintro e w' ⟨rfl, M', hst, hs⟩
  exact ⟨rfl, At.step h2 h3 hst hs⟩
theorem at_begin_open (h : At w0 p fs s w) (ho : s.opn = true) : Calls Tryz.prog 24 #[.pointer (some ⟨p, 0, none⟩)] w fun e w' => e = .returned (.int .i64 6) ∧ w = w' := by
  obtain ⟨M, h1, _, _⟩ := h
  exact begin_open p M s w h1 ho
theorem at_put (h : At w0 p fs s w) (ho : s.opn = true) (k val : J.B) (v : Value) (hk0 : k ≠ []) (hk : k.length ≤ 300) (hn : val.length ≤ 8192) (hv : Sl w NoM v val) (r : Int) (hr : J.add s ⟨k, val, false⟩ = (s', r)) :
    Calls Tryz.prog 40 #[.pointer (some ⟨p, 0, none⟩), .string ⟨k.toArray⟩, v] w fun e w' => e = .returned (.int .i64 r) ∧ At w0 p fs s' w' := by
  obtain ⟨M, h1, h2, h3⟩ := h
  have hp := put_ok p M s ⟨k.toArray⟩ v val w h1 ho (enc_key k hk0) (by rw [enc_size]; exact hk) hn NoM hv
  rw [show (⟨k.toArray⟩ : ByteArray).data.toList = k from rfl, hr] at hp
  refine hp.mono ?_
  rintro e w' ⟨rfl, M', hst, hs⟩
  exact ⟨rfl, At.step h2 h3 hst hs⟩
theorem at_put_shut (h : At w0 p fs s w) (ho : s.opn = false) (k : ByteArray) (A : Option Addr) (n c : Nat) :
    Calls Tryz.prog 40 #[.pointer (some ⟨p, 0, none⟩), .string k, .slice A n c] w fun e w' => e = .returned (.int .i64 6) ∧ w = w' := by
  obtain ⟨M, h1, _, _⟩ := h
  exact put_shut p M s k A n c w h1 ho
theorem at_put_empty (h : At w0 p fs s w) (ho : s.opn = true) (A : Option Addr) (n c : Nat) :
    Calls Tryz.prog 40 #[.pointer (some ⟨p, 0, none⟩), .string ⟨#[]⟩, .slice A n c] w fun e w' => e = .returned (.int .i64 1) ∧ w = w' := by
  obtain ⟨M, h1, _, _⟩ := h
  exact put_empty p M s ⟨#[]⟩ A n c w h1 ho (by rw [ByteArray.toList_eq])
theorem at_delete (h : At w0 p fs s w) (k : J.B) (hk : k.length ≤ 1000) (r : Int) (hr : J.delete s k = (s', r)) :
    Calls Tryz.prog 39 #[.pointer (some ⟨p, 0, none⟩), .string ⟨k.toArray⟩] w fun e w' => e = .returned (.int .i64 r) ∧ At w0 p fs s' w' := by
  obtain ⟨M, h1, h2, h3⟩ := h
  have hp := delete_any p M s ⟨k.toArray⟩ w h1 (by rw [enc_size]; exact hk)
  rw [show (⟨k.toArray⟩ : ByteArray).data.toList = k from rfl, hr] at hp
  refine hp.mono ?_
  rintro e w' ⟨rfl, M', hst, hs⟩
  exact ⟨rfl, At.step h2 h3 hst hs⟩
theorem at_commit (h : At w0 p fs s w) (ho : s.opn = true) (hsp : s.spoilt = false) (hs : CSmall s s.was) (hcm : s.commits + 1 < 4294967296) (har : s.area ≤ 1) (hfit : (s.disk.area s.area).length + (J.record 0 (s.commits + 1) s.changes).length ≤ 4194304) (n r : Int) (hr : J.commit s = (s', n, r)) :
    Calls Tryz.prog 70 #[.pointer (some ⟨p, 0, none⟩)] w fun e w' => e = .returned (.tuple #[.int .i64 n, .int .i64 r]) ∧ At w0 p fs s' w' := by
  obtain ⟨M, h1, h2, h3⟩ := h
  have hp := commit_anyfit p M s w h1 ho hsp hs hcm har hfit
  rw [hr] at hp
  refine hp.mono ?_
  rintro e w' ⟨rfl, M', hst, hs⟩
  exact ⟨rfl, At.step h2 h3 hst hs⟩
theorem at_keys (h : At w0 p fs s w) (pre : ByteArray) (hl : s.now.length ≤ 1000000) :
    Calls Tryz.prog 38 #[.pointer (some ⟨p, 0, none⟩), .string pre] w fun e w' => ∃ A, e = .returned (.slice A (keysOf s.now pre).length (keysOf s.now pre).length) ∧ StrsAt w' A (keysOf s.now pre) ∧ At w0 p fs s w' ∧ Below w.heap.size w w' ∧ (∀ g, A = some ⟨g, 0, none⟩ → w.heap.size ≤ g) := by
  have h' := h
  obtain ⟨M, h1, h2, h3⟩ := h
  refine (keys_any p pre M s w h1 (by omega)).mono ?_
  rintro e w' ⟨A, rfl, hst, hg, hb⟩
  exact ⟨A, rfl, hst, h'.below hb, hb, fun g e => hg g (by subst e; rfl)⟩
theorem at_get (h : At w0 p fs s w) (k : J.B) (hk : k.length ≤ 1000) (hl : ∀ l, J.look s.now k = some l → l.length ≤ 90000000) :
    Calls Tryz.prog 32 #[.pointer (some ⟨p, 0, none⟩), .string ⟨k.toArray⟩] w fun e w' => ∃ v, e = .returned (.tuple #[v, .bool (J.look s.now k).isSome]) ∧ Slc w' (· < w.heap.size) v ((J.look s.now k).getD []) ∧ At w0 p fs s w' ∧ Below w.heap.size w w' := by
  have h' := h
  obtain ⟨M, h1, h2, h3⟩ := h
  refine (getS_any p M s ⟨k.toArray⟩ w h1 (by rw [enc_size]; unfold maxLen; omega) hl).mono ?_
  rintro e w' ⟨v, rfl, hs, hb⟩
  exact ⟨v, rfl, hs, h'.below hb, hb⟩
theorem at_writes (h : At w0 p fs s w) : Calls Tryz.prog 20 #[.pointer (some ⟨p, 0, none⟩)] w fun e w' => e = .returned (.int .i64 (s.writes.length : Nat)) ∧ w = w' := by
  obtain ⟨M, h1, _, _⟩ := h
  exact writes_any p M s w h1
theorem wok_sum : ∀ (l : List J.Wr) (x : J.Wr), x ∈ l → x.bs.length ≤ (l.map fun w => w.bs.length).sum
  | [], x, h => by cases h
  | a :: t, x, h => by
    simp only [List.map_cons, List.sum_cons]
    rcases List.mem_cons.1 h with rfl | h
    · omega
    · have := wok_sum t x h; omega
theorem fold_size : ∀ (l : List J.Wr) (m : J.Img) (n : Nat), m.h0.length ≤ n → m.h1.length ≤ n → m.a0.length ≤ n → m.a1.length ≤ n →
    (J.foldDone m l).h0.length ≤ n + (l.map fun w => w.bs.length).sum ∧ (J.foldDone m l).h1.length ≤ n + (l.map fun w => w.bs.length).sum ∧ (J.foldDone m l).a0.length ≤ n + (l.map fun w => w.bs.length).sum ∧ (J.foldDone m l).a1.length ≤ n + (l.map fun w => w.bs.length).sum
  | [], m, n, h0, h1, h2, h3 => ⟨h0, h1, h2, h3⟩
  | x :: t, m, n, h0, h1, h2, h3 => by
    have hd : (J.done m x x.bs.length).h0.length ≤ n + x.bs.length ∧ (J.done m x x.bs.length).h1.length ≤ n + x.bs.length ∧ (J.done m x x.bs.length).a0.length ≤ n + x.bs.length ∧ (J.done m x x.bs.length).a1.length ≤ n + x.bs.length := by
      unfold J.done J.Img.setArea J.Img.setHead J.Img.area J.Img.head
      split
      · split <;> (refine ⟨?_, ?_, ?_, ?_⟩ <;> simp only [List.length_append, List.length_take] <;> omega)
      · split
        · split <;> (refine ⟨?_, ?_, ?_, ?_⟩ <;> simp only [List.length_nil] <;> omega)
        · split <;> (refine ⟨?_, ?_, ?_, ?_⟩ <;> simp only [List.length_append, List.length_take, List.length_drop] <;> omega)
    have := fold_size t (J.done m x x.bs.length) (n + x.bs.length) hd.1 hd.2.1 hd.2.2.1 hd.2.2.2
    simp only [List.map_cons, List.sum_cons]
    show (J.foldDone (J.done m x x.bs.length) t).h0.length ≤ _ ∧ (J.foldDone (J.done m x x.bs.length) t).h1.length ≤ _ ∧ (J.foldDone (J.done m x x.bs.length) t).a0.length ≤ _ ∧ (J.foldDone (J.done m x x.bs.length) t).a1.length ≤ _
    omega
theorem sum_take (l : List J.Wr) (k : Nat) : ((l.take k).map fun w => w.bs.length).sum ≤ (l.map fun w => w.bs.length).sum := by
  conv => rhs; rw [← List.take_append_drop k l, List.map_append, List.sum_append]
  omega
theorem cutOk (h : J.WOk s) (hl : s.logged ≤ 16777216) : CutOk s := by
  have hs := h.sum
  refine ⟨fun wr hw => ?_, fun k => ?_⟩
  · obtain ⟨h1, h2, h3⟩ := h.wr wr hw
    have := wok_sum _ wr hw
    exact ⟨h1, h2, by omega, h3⟩
  · have h1 := fold_size (s.writes.take k) s.base 8388608 h.h0 h.h1 h.a0 h.a1
    have h2 := sum_take s.writes k
    omega
theorem at_abandon (h : At w0 p fs s w) (ho : s.opn = true) : Calls Tryz.prog 25 #[.pointer (some ⟨p, 0, none⟩)] w fun e w' => e = .returned (.int .i64 0) ∧ At w0 p fs (J.abandon s) w' := by
  obtain ⟨M, h1, h2, h3⟩ := h
  refine (abandon_any p M s w h1 ho).mono ?_
  rintro e w' ⟨rfl, hst, hs⟩
  exact ⟨rfl, At.step h2 h3 hst hs⟩
/-- Cut, where there is something to cut. -/
theorem at_cut (h : At w0 p fs s w) (hw : J.WOk s) (k t : Nat) (hk : k ≤ s.writes.length) (ht : t = 0 ∨ ∃ wr, s.writes[k]? = some wr ∧ t ≤ wr.bs.length) :
    Calls Tryz.prog 21 #[.pointer (some ⟨p, 0, none⟩), .int .i64 k, .int .i64 t] w fun e w' => ∃ v, e = .returned (.tuple #[v, .int .i64 0]) ∧ ImgC w' (· < w.heap.size) v (J.cutImg s k t) ∧ At w0 p fs s w' := by
  have h' := h
  obtain ⟨M, h1, h2, h3⟩ := h
  have ok : Ok s := h1.q.2
  have hc := cutOk hw ok.logged
  have hwl : s.writes.length ≤ 20000000 := by have := ok.writes; have := ok.logged; omega
  by_cases ht0 : t = 0
  · subst ht0
    refine (cut_whole p M s k w h1 hc hk hwl).mono ?_
    rintro e w' ⟨v, rfl, hi, hb⟩
    refine ⟨v, rfl, ?_, h'.below hb⟩
    have : J.cutImg s k 0 = J.foldDone s.base (s.writes.take k) := by unfold J.cutImg; cases s.writes[k]? <;> rfl
    rw [this]; exact hi
  · rcases ht with ht | ⟨wr, hwr, ht⟩
    · exact absurd ht ht0
    · obtain ⟨hlt, e⟩ := List.getElem?_eq_some_iff.1 hwr
      refine (cut_torn p M s k w h1 hc hlt t (by omega) (by rw [e]; exact ht) hwl).mono ?_
      rintro e' w' ⟨v, rfl, hi, hb⟩
      refine ⟨v, rfl, ?_, h'.below hb⟩
      have : J.cutImg s k t = J.done (J.foldDone s.base (s.writes.take k)) s.writes[k] t := by
        unfold J.cutImg
        rw [hwr]
        dsimp only
        rw [if_neg ht0, e]
      rw [this]; exact hi
theorem at_cut_none (h : At w0 p fs s w) (W T : Int) (hn : NoCut s W T) :
    Calls Tryz.prog 21 #[.pointer (some ⟨p, 0, none⟩), .int .i64 W, .int .i64 T] w fun e w' => e = .returned (.tuple #[nilI, .int .i64 13]) ∧ At w0 p fs s w' := by
  have h' := h
  obtain ⟨M, h1, h2, h3⟩ := h
  refine (cut_none p M s W T w h1 hn).mono ?_
  rintro e w' ⟨rfl, hb⟩
  exact ⟨rfl, h'.below hb⟩
end
/-- Recover of an image that is read. -/
def RecRes2 (w0 w : World) (m : J.Img) (e : Ending) (w' : World) : Prop :=
  match J.recover m with
  | .ok s => ∃ p, e = .returned (.tuple #[.pointer (some ⟨p, 0, none⟩), .int .i64 0]) ∧ At w0 p [] s w' ∧ Below w.heap.size w w'
  | .error er => e = .returned (.tuple #[.pointer none, .int .i64 er]) ∧ Below w.heap.size w w'
theorem at_recover (w0 : World) (m : J.Img) (v0 v1 v2 v3 : Value) (w : World) (hb : Below w0.heap.size w0 w) (q0 : Sl w NoM v0 m.h0) (q1 : Sl w NoM v1 m.h1) (q2 : Sl w NoM v2 m.a0) (q3 : Sl w NoM v3 m.a1) (z0 : m.h0.length ≤ 90000000) (z1 : m.h1.length ≤ 90000000) (z2 : m.a0.length ≤ 8388608) (z3 : m.a1.length ≤ 8388608) :
    Calls Tryz.prog 22 #[imgW v0 v1 v2 v3] w (RecRes2 w0 w m) := by
  obtain ⟨A0, c0, rfl⟩ := q0.slice_
  obtain ⟨A1, c1, rfl⟩ := q1.slice_
  obtain ⟨A2, c2, rfl⟩ := q2.slice_
  obtain ⟨A3, c3, rfl⟩ := q3.slice_
  refine (recover_small A0 A1 A2 A3 c0 c1 c2 c3 m NoM w q0 q1 q2 q3 z0 z1 z2 z3 (by omega)).mono ?_
  intro e w' hr
  unfold RecRes at hr
  unfold RecRes2
  cases h : J.recover m with
  | error er =>
    rw [h] at hr
    exact hr
  | ok s =>
    rw [h] at hr
    obtain ⟨p, M, rfl, hst, hM, hb2⟩ := hr
    exact ⟨p, rfl, ⟨fun k => M k ∧ k < w'.heap.size, hst.cap, fun k hk => ⟨Nat.le_trans hb.size (hM k hk.1), hk.2⟩, hb.trans (hb2.mono hb.size), fun x hx => by cases hx⟩, hb2⟩
theorem At.ok {w0 w : World} {p : Nat} {s : J.St} {fs : List (Nat × Obj)} (h : At w0 p fs s w) : Ok s := h.elim fun _ h => h.1.q.2
/-- Recover of a disk that holds. -/
theorem at_recover_holds (w0 : World) (m : J.Img) (commits : Nat) (now : List (J.B × J.B)) (hh : J.Img.Holds True m commits now) (v0 v1 v2 v3 : Value) (w : World) (hb : Below w0.heap.size w0 w) (q0 : Sl w NoM v0 m.h0) (q1 : Sl w NoM v1 m.h1) (q2 : Sl w NoM v2 m.a0) (q3 : Sl w NoM v3 m.a1) (z0 : m.h0.length ≤ 90000000) (z1 : m.h1.length ≤ 90000000) :
    Calls Tryz.prog 22 #[imgW v0 v1 v2 v3] w fun e w' => ∃ p at_, e = .returned (.tuple #[.pointer (some ⟨p, 0, none⟩), .int .i64 0]) ∧ At w0 p [] (J.recovered m at_ commits now) w' ∧ at_ ≤ (m.area (J.current m.h0 m.h1).2.1).length ∧ J.Reads (J.current m.h0 m.h1).1 (m.area (J.current m.h0 m.h1).2.1) 0 0 [] at_ commits now ∧ (0 < (J.current m.h0 m.h1).1 → 0 < at_) ∧ Below w.heap.size w w' := by
  refine (at_recover w0 m v0 v1 v2 v3 w hb q0 q1 q2 q3 z0 z1 hh.a0 hh.a1).mono ?_
  intro e w' hr
  obtain ⟨at_, h1, h2, h3, h4⟩ := hh.recover
  unfold RecRes2 at hr
  rw [h1] at hr
  obtain ⟨p, rfl, ha, hb2⟩ := hr
  exact ⟨p, at_, rfl, ha, h2, h3, h4 trivial, hb2⟩
theorem run_field_heads (A0 A1 A2 A3 : Option Addr) (n0 n1 n2 n3 c0 c1 c2 c3 : Nat) (w : World) : (Instr.field 67 (imgW (.slice A0 n0 c0) (.slice A1 n1 c1) (.slice A2 n2 c2) (.slice A3 n3 c3)) 0).run Tryz.prog w = .ok (.agg #[.slice A0 n0 c0, .slice A1 n1 c1]) w := by kernel_rfl
theorem run_field_areas (A0 A1 A2 A3 : Option Addr) (n0 n1 n2 n3 c0 c1 c2 c3 : Nat) (w : World) : (Instr.field 67 (imgW (.slice A0 n0 c0) (.slice A1 n1 c1) (.slice A2 n2 c2) (.slice A3 n3 c3)) 1).run Tryz.prog w = .ok (.agg #[.slice A2 n2 c2, .slice A3 n3 c3]) w := by kernel_rfl
end Go.Proofs.YtjbepnkchoaipaaGreat
/- Law 31, plain: the keys of a file's records. -/
namespace Go.Proofs.YtjbepnkchoaipaaGreat
open Go.RowKit Go.Lib Go.Maps Go.WideMaps Go.Sort
namespace R
theorem prefix_app (p : B) (x y : B) : (p ++ x).isPrefixOf (p ++ y) = x.isPrefixOf y := by
  induction p with
  | nil => rfl
  | cons a p ih => simp only [List.cons_append, List.isPrefixOf, ih, beq_self_eq_true, Bool.true_and]
theorem pre_own (nm : B) : Lib.hasPrefix (own nm) (recs nm) = false := by
  unfold Lib.hasPrefix own recs
  rw [prefix_app]; decide
theorem pre_key (nm : B) (n : Nat) : Lib.hasPrefix (key nm n) (recs nm) = true := by
  unfold Lib.hasPrefix key
  have := prefix_app (recs nm) [] (be4 n)
  rw [List.append_nil] at this
  rw [this]; rfl
theorem pre_all (nm : B) (x : B) : Lib.hasPrefix (nm ++ 0 :: x) (nm ++ [0]) = true := by
  unfold Lib.hasPrefix
  rw [prefix_app]; rfl
theorem keys_recs (nm a : B) (rows : Rows) : keysOf (fmap nm (some a) rows) ⟨(recs nm).toArray⟩ = rows.map fun r => key nm r.1 := by
  unfold keysOf fmap
  have e : (⟨(recs nm).toArray⟩ : ByteArray).data.toList = recs nm := rfl
  rw [e, List.map_cons, List.filter_cons_of_neg (by rw [pre_own]; decide), List.map_map]
  rw [List.filter_eq_self.2 (fun k hk => by obtain ⟨r, _, rfl⟩ := List.mem_map.1 hk; exact pre_key nm r.1)]
  rfl
theorem keys_all (nm a : B) (rows : Rows) : keysOf (fmap nm (some a) rows) ⟨(nm ++ [0]).toArray⟩ = own nm :: rows.map fun r => key nm r.1 := by
  unfold keysOf fmap
  have e : (⟨(nm ++ [0]).toArray⟩ : ByteArray).data.toList = nm ++ [0] := rfl
  rw [e, List.map_cons, List.map_map]
  rw [List.filter_eq_self.2 (fun k hk => by
    rcases List.mem_cons.1 hk with rfl | hk
    · exact pre_all nm [65]
    · obtain ⟨r, _, rfl⟩ := List.mem_map.1 hk
      show Lib.hasPrefix (key nm r.1) _ = true
      unfold key recs
      rw [List.append_assoc]
      exact pre_all nm (82 :: be4 r.1))]
  rfl
theorem keys_none (nm pre : B) (rows : Rows) : keysOf (fmap nm none rows) ⟨pre.toArray⟩ = [] := rfl
end R
end Go.Proofs.YtjbepnkchoaipaaGreat
/- Law 31, plain: a closed store whose contents are small, and a transaction in it. -/
namespace Go.Proofs.YtjbepnkchoaipaaGreat
open Go.RowKit Go.Lib Go.Maps Go.WideMaps Go.Sort
set_option maxRecDepth 100000
namespace R
/-- An open transaction of a store. -/
def opened (s : J.St) (chs : List J.Chg) (now : List (B × B)) : J.St := { s with opn := true, spoilt := false, changes := chs, size := 13 + (J.encs chs).length, was := s.now, now := now }
theorem opened_begin (s : J.St) : J.begin_ s = opened s [] s.now := rfl
theorem opened_add (s : J.St) (chs : List J.Chg) (now : List (B × B)) (c : J.Chg) (h : 13 + (J.encs chs).length + c.len ≤ 4194304) : J.add (opened s chs now) c = (opened s (chs ++ [c]) (if c.gone then J.del now c.key else J.ins now c.key c.val), 0) := by
  unfold J.add
  rw [if_neg (by show ¬ 4194304 - (13 + (J.encs chs).length) < c.len; omega)]
  unfold J.apply opened
  have e : 13 + (J.encs (chs ++ [c])).length = 13 + (J.encs chs).length + c.len := by
    rw [J.encs_app, J.encs_cons]; simp [J.encs]; omega
  rw [e]
/-- A store, closed, with these contents, behind at most u acts. -/
structure Sto (u : Nat) (now : List (B × B)) (s : J.St) : Prop where
  opn : s.opn = false
  ar : s.area = 0
  now : s.now = now
  base : s.base = J.img0
  inv : J.Inv True s
  wr : ∀ x ∈ s.writes, x.kind = 0 ∧ x.idx = 0 ∧ 13 ≤ x.bs.length
  h0 : s.disk.h0 = []
  h1 : s.disk.h1 = []
  sum : s.logged = (s.writes.map fun w => w.bs.length).sum
  log : s.logged ≤ 5000 * u
  a0 : s.disk.a0.length ≤ 5000 * u
  cm : s.commits = s.writes.length
  cu : s.commits ≤ u
  many : s.now.length ≤ u + 1
theorem Sto.mono {u v : Nat} {now : List (B × B)} {s : J.St} (h : Sto u now s) (hv : u ≤ v) : Sto v now s :=
  ⟨h.opn, h.ar, h.now, h.base, h.inv, h.wr, h.h0, h.h1, h.sum, Nat.le_trans h.log (Nat.mul_le_mul_left _ hv), Nat.le_trans h.a0 (Nat.mul_le_mul_left _ hv), h.cm, Nat.le_trans h.cu hv, by have := h.many; omega⟩
theorem sto_new : Sto 0 [] J.new :=
  ⟨rfl, rfl, rfl, rfl, J.inv_new True, (fun x h => by cases h), rfl, rfl, rfl, Nat.le_refl _, Nat.le_refl _, rfl, Nat.le_refl _, Nat.zero_le _⟩
theorem Sto.two {u : Nat} {now : List (B × B)} {s : J.St} (h : Sto u now s) : J.Two s :=
  ⟨fun x hx => by have := (h.wr x hx).2.2; omega, by rw [h.h0]; decide, by rw [h.h1]; decide⟩
theorem Sto.wok {u : Nat} {now : List (B × B)} {s : J.St} (h : Sto u now s) : J.WOk s :=
  ⟨h.sum, fun w hw => by obtain ⟨h1, h2, h3⟩ := h.wr w hw; exact ⟨by omega, by omega, fun _ => by omega⟩, by rw [h.base]; decide, by rw [h.base]; decide, by rw [h.base]; decide, by rw [h.base]; decide⟩
theorem Sto.len {u : Nat} {now : List (B × B)} {s : J.St} (h : Sto u now s) {k l : B} (hl : J.look s.now k = some l) : l.length ≤ 8192 := by
  have hf := h.inv.fit
  revert hl
  generalize s.now = m at hf
  intro hl
  induction m with
  | nil => cases hl
  | cons p t ih =>
    unfold J.look at hl
    split at hl
    · injection hl with hl; subst hl; exact (hf p List.mem_cons_self).2.2
    · exact ih (fun q hq => hf q (List.mem_cons_of_mem _ hq)) hl
theorem encs_fit {m : List (B × B)} (hf : J.FitM m) : (J.encs (J.values m)).length ≤ 8499 * m.length := by
  induction m with
  | nil => exact Nat.zero_le _
  | cons p t ih =>
    have h1 := ih (fun q hq => hf q (List.mem_cons_of_mem _ hq))
    obtain ⟨_, h2, h3⟩ := hf p List.mem_cons_self
    rw [J.values_cons, J.encs_cons]
    simp only [J.Chg.len, List.length_cons, Bool.false_eq_true, if_false]
    omega
/-- What a commit of an open transaction wants, and what it leaves. -/
structure Tx (u : Nat) (s s1 : J.St) (now : List (B × B)) : Prop where
  opn : s1.opn = true
  sp : s1.spoilt = false
  cs : CSmall s1 s1.was
  cm : s1.commits + 1 < 4294967296
  ar : s1.area ≤ 1
  fit : (s1.disk.area s1.area).length + (J.record 0 (s1.commits + 1) s1.changes).length ≤ 4194304
  com : J.commit s1 = (J.committed s1, (s1.commits : Int) + 1, 0)
  sto : Sto (u + 1) now (J.committed s1)
  wr : (J.committed s1).writes.length = s.writes.length + 1
  hist : ∀ b states at_, J.Hist True s b states at_ → J.Hist True (J.committed s1) b (states ++ [now]) (at_ ++ [s.writes.length + 1])
theorem tx_of {u : Nat} {old now : List (B × B)} {s : J.St} (h : Sto u old s) (hu : u ≤ 340) (chs : List J.Chg) (hi : J.Inv True (opened s chs now)) (hh : ∀ b states at_, J.Hist True s b states at_ → J.Hist True (opened s chs now) b states at_) (hl : (J.encs chs).length ≤ 4900) (hm : now.length ≤ u + 1 + 1) : Tx u s (opened s chs now) now := by
  have ha0 := h.a0
  have hlog := h.log
  have hrl : (J.record 0 (s.commits + 1) chs).length = 13 + (J.encs chs).length := J.record_len _ _ _
  have har : s.disk.area s.area = s.disk.a0 := by rw [h.ar]; rfl
  have hfit : (s.disk.area s.area).length + (J.record 0 (s.commits + 1) chs).length ≤ 4194304 := by rw [har, hrl]; omega
  have hcu := h.cu
  obtain ⟨k1, k2, k3⟩ := J.inv_committed (b := 0) (states := []) (at_ := []) hi trivial rfl (show (s.disk.area s.area).length + (J.record 0 (s.commits + 1) chs).length ≤ 8388608 by omega) (show s.commits + 1 < 4294967296 by omega) (show (J.encs chs).length < 4294967296 by omega)
  refine ⟨rfl, rfl, ⟨?_, ?_, ?_⟩, ?_, ?_, hfit, ?_, ⟨rfl, h.ar, rfl, h.base, k1, ?_, ?_, ?_, ?_, ?_, ?_, ?_, ?_, hm⟩, ?_, ?_⟩
  · show (J.encs (J.values s.now)).length ≤ _
    have := encs_fit h.inv.fit
    have h2 := h.many
    omega
  · show s.commits < _
    omega
  · intro p hp
    have := (h.inv.fit p hp).2.1
    unfold maxLen; omega
  · show s.commits + 1 < _
    omega
  · show s.area ≤ 1
    rw [h.ar]; omega
  · rw [commit_end (s := opened s chs now) rfl rfl rfl rfl hfit]
    unfold J.commitEnd
    have e1 : J.fits (opened s chs now) (J.record 0 ((opened s chs now).commits + 1) (opened s chs now).changes) = true := decide_eq_true hfit
    have e2 : decide ((J.record 0 ((opened s chs now).commits + 1) (opened s chs now).changes).length ≤ 16777216 - (opened s chs now).logged) = true := decide_eq_true (show (J.record 0 (s.commits + 1) chs).length ≤ 16777216 - s.logged by omega)
    rw [e1, e2]; rfl
  · intro x hx
    have hx : x ∈ s.writes ++ [(⟨0, s.area, J.record 0 (s.commits + 1) chs⟩ : J.Wr)] := hx
    rcases List.mem_append.1 hx with hx | hx
    · exact h.wr x hx
    · simp only [List.mem_singleton] at hx
      subst hx
      exact ⟨rfl, h.ar, by show 13 ≤ (J.record 0 (s.commits + 1) chs).length; omega⟩
  · show (J.done s.disk ⟨0, s.area, _⟩ _).h0 = []
    unfold J.done J.Img.setArea
    rw [if_pos rfl, h.ar]
    exact h.h0
  · show (J.done s.disk ⟨0, s.area, _⟩ _).h1 = []
    unfold J.done J.Img.setArea
    rw [if_pos rfl, h.ar]
    exact h.h1
  · show s.logged + (J.record 0 (s.commits + 1) chs).length = ((s.writes ++ [(⟨0, s.area, J.record 0 (s.commits + 1) chs⟩ : J.Wr)]).map fun w : J.Wr => w.bs.length).sum
    rw [h.sum]; simp
  · show s.logged + (J.record 0 (s.commits + 1) chs).length ≤ _
    omega
  · show (J.done s.disk ⟨0, s.area, J.record 0 (s.commits + 1) chs⟩ (J.record 0 (s.commits + 1) chs).length).a0.length ≤ _
    unfold J.done J.Img.setArea
    rw [if_pos rfl, h.ar]
    show (s.disk.a0 ++ (J.record 0 (s.commits + 1) chs).take _).length ≤ _
    rw [List.length_append, List.length_take]
    omega
  · show s.commits + 1 = (s.writes ++ [_]).length
    rw [h.cm]; simp
  · show s.commits + 1 ≤ _
    omega
  · show (s.writes ++ [_]).length = _
    simp
  · intro b states at_ hi2
    obtain ⟨_, _, k3⟩ := J.inv_committed (b := b) (states := states) (at_ := at_) hi trivial rfl (show (s.disk.area s.area).length + (J.record 0 (s.commits + 1) chs).length ≤ 8388608 by omega) (show s.commits + 1 < 4294967296 by omega) (show (J.encs chs).length < 4294967296 by omega)
    exact k3 (hh _ _ _ hi2)
section
variable {u : Nat} {s : J.St} {old : List (B × B)}
theorem inv_opened (h : Sto u old s) : J.Inv True (opened s [] s.now) := (J.inv_begin h.inv h.opn).1
theorem inv_more {chs : List J.Chg} {now : List (B × B)} (h : J.Inv True (opened s chs now)) (c : J.Chg) (hc : c.Fit) (hg : c.gone = true → J.look now c.key ≠ none) : J.Inv True (opened s (chs ++ [c]) (if c.gone then J.del now c.key else J.ins now c.key c.val)) := by
  have := J.inv_added h rfl c hc hg
  unfold J.apply at this
  have e : 13 + (J.encs (chs ++ [c])).length = 13 + (J.encs chs).length + c.len := by
    rw [J.encs_app, J.encs_cons]; simp [J.encs]; omega
  have e2 : opened s (chs ++ [c]) (if c.gone then J.del now c.key else J.ins now c.key c.val) = { (opened s chs now) with changes := chs ++ [c], size := 13 + (J.encs chs).length + c.len, now := (if c.gone then J.del now c.key else J.ins now c.key c.val) } := by
    unfold opened; rw [e]
  rw [e2]
  exact this
theorem hist_opened (h : Sto u old s) (chs : List J.Chg) (now : List (B × B)) {b : Nat} {states : List (List (B × B))} {at_ : List Nat} (hh : J.Hist True s b states at_) : J.Hist True (opened s chs now) b states at_ :=
  hh.same rfl rfl rfl (by unfold J.St.com opened; rw [h.opn]; rfl)
/-- A transaction that puts a value. -/
theorem tx_put (h : Sto u old s) (hu : u ≤ 340) (k v : B) (hk0 : k ≠ []) (hk : k.length ≤ 300) (hv : v.length ≤ 4096) (hm : (J.ins s.now k v).length ≤ u + 2) :
    ∃ s1, J.add (J.begin_ s) ⟨k, v, false⟩ = (s1, 0) ∧ Tx u s s1 (J.ins s.now k v) := by
  refine ⟨opened s [⟨k, v, false⟩] (J.ins s.now k v), ?_, ?_⟩
  · rw [opened_begin, opened_add]
    · rfl
    · simp [J.encs, J.Chg.len]; omega
  · refine tx_of h hu _ (inv_more (chs := []) (inv_opened h) ⟨k, v, false⟩ ⟨hk0, hk, by show v.length ≤ 8192; omega, fun e => by cases e⟩ (fun e => by cases e)) (fun b st a hh => hist_opened h _ _ hh) ?_ hm
    rw [J.encs_cons]
    simp [J.encs, J.Chg.len]; omega
/-- A transaction that removes a key. -/
theorem tx_del (h : Sto u old s) (hu : u ≤ 340) (k : B) (hk0 : k ≠ []) (hk : k.length ≤ 300) (hl : J.look s.now k ≠ none) :
    ∃ s1, J.delete (J.begin_ s) k = (s1, 0) ∧ Tx u s s1 (J.del s.now k) := by
  refine ⟨opened s [⟨k, [], true⟩] (J.del s.now k), ?_, ?_⟩
  · unfold J.delete
    rw [if_neg (by show ¬ true = false; decide), if_neg (show ¬ J.look (J.begin_ s).now k = none from hl), opened_begin, opened_add]
    · rfl
    · simp [J.encs, J.Chg.len]; omega
  · refine tx_of h hu _ (inv_more (chs := []) (inv_opened h) ⟨k, [], true⟩ ⟨hk0, hk, Nat.zero_le _, fun _ => rfl⟩ (fun _ => hl)) (fun b st a hh => hist_opened h _ _ hh) ?_ ?_
    · rw [J.encs_cons]
      simp [J.encs, J.Chg.len]; omega
    · have h1 := h.many
      have h2 : (J.del s.now k).length ≤ s.now.length := List.length_filter_le _ _
      omega
/-- Removals of all keys, one by one. -/
def dels (ks : List B) : List J.Chg := ks.map fun k => ⟨k, [], true⟩
theorem dels_snoc (ks : List B) (k : B) : dels (ks ++ [k]) = dels ks ++ [⟨k, [], true⟩] := by simp [dels]
theorem dels_len (ks : List B) (n : Nat) (h : ∀ k ∈ ks, k.length ≤ n) : (J.encs (dels ks)).length ≤ (3 + n) * ks.length := by
  induction ks with
  | nil => exact Nat.zero_le _
  | cons k t ih =>
    have h1 := ih (fun x hx => h x (List.mem_cons_of_mem _ hx))
    have h2 := h k List.mem_cons_self
    show (J.encs (⟨k, [], true⟩ :: dels t)).length ≤ _
    rw [J.encs_cons, List.length_cons, Nat.mul_succ]
    simp only [J.Chg.len, if_true]
    omega
theorem del_head {p : B × B} {t : List (B × B)} (h : J.Asc (p :: t)) : J.del (p :: t) p.1 = t := by
  unfold J.del
  rw [List.filter_cons_of_neg (by simp), List.filter_eq_self.2]
  intro x hx
  have := (List.pairwise_cons.1 h).1 x hx
  simp only [Bool.not_eq_true', beq_eq_false_iff_ne, ne_eq]
  intro e
  rw [e] at this
  exact List.lt_irrefl _ this
theorem look_head (p : B × B) (t : List (B × B)) : J.look (p :: t) p.1 = some p.2 := by
  show (if p.1 = p.1 then some p.2 else _) = _
  rw [if_pos rfl]
/-- The transaction of Open: all keys are removed, from the first one on. -/
theorem open_step (h : Sto u old s) (ks : List B) (m : List (B × B)) (p : B × B) (hi : J.Inv True (opened s (dels ks) (p :: m))) (hl : (J.encs (dels ks)).length + 400 ≤ 4000000) :
    J.delete (opened s (dels ks) (p :: m)) p.1 = (opened s (dels (ks ++ [p.1])) m, 0) ∧ J.Inv True (opened s (dels (ks ++ [p.1])) m) := by
  have hf := hi.fit p List.mem_cons_self
  have ha : J.Asc (p :: m) := hi.asc
  have hlk : J.look (p :: m) p.1 ≠ none := by rw [look_head]; intro e; cases e
  constructor
  · unfold J.delete
    rw [if_neg (by show ¬ true = false; decide), if_neg (show ¬ J.look (opened s (dels ks) (p :: m)).now p.1 = none from hlk), opened_add]
    · rw [dels_snoc]
      show (opened s _ (J.del (p :: m) p.1), (0 : Int)) = _
      rw [del_head ha]
    · have := hf.2.1
      simp only [J.Chg.len, if_true]
      omega
  · have := inv_more hi ⟨p.1, [], true⟩ ⟨hf.1, hf.2.1, Nat.zero_le _, fun _ => rfl⟩ (fun _ => hlk)
    rw [dels_snoc]
    have e : (if (⟨p.1, [], true⟩ : J.Chg).gone then J.del (p :: m) (⟨p.1, [], true⟩ : J.Chg).key else J.ins (p :: m) (⟨p.1, [], true⟩ : J.Chg).key (⟨p.1, [], true⟩ : J.Chg).val) = m := del_head ha
    rw [e] at this
    exact this
theorem ins_nil (k v : B) : J.ins [] k v = [(k, v)] := rfl
theorem open_last (h : Sto u old s) (hu : u ≤ 340) (ks : List B) (k v : B) (hi : J.Inv True (opened s (dels ks) [])) (hk0 : k ≠ []) (hk : k.length ≤ 300) (hv : v.length ≤ 8192) (hl : (J.encs (dels ks)).length + 7 + k.length + v.length ≤ 4900) :
    J.add (opened s (dels ks) []) ⟨k, v, false⟩ = (opened s (dels ks ++ [⟨k, v, false⟩]) [(k, v)], 0) ∧ Tx u s (opened s (dels ks ++ [⟨k, v, false⟩]) [(k, v)]) [(k, v)] := by
  constructor
  · rw [opened_add]
    · rfl
    · simp [J.Chg.len]; omega
  · refine tx_of h hu _ (inv_more hi ⟨k, v, false⟩ ⟨hk0, hk, hv, fun e => by cases e⟩ (fun e => by cases e)) (fun b st a hh => hist_opened h _ _ hh) ?_ (by simp)
    rw [J.encs_app, J.encs_cons]
    simp [J.encs, J.Chg.len]
    simp [J.encs] at hl
    omega
end
end R
end Go.Proofs.YtjbepnkchoaipaaGreat
