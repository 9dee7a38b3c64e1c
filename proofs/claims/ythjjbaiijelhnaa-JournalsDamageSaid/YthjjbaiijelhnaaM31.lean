import Derived.Test.YthjjbaiijelhnaaM28
import Derived.Test.YthjjbaiijelhnaaM29
import Derived.Test.YthjjbaiijelhnaaM30
set_option linter.unusedVariables false
set_option linter.unusedSimpArgs false
/- Law 30: does, whatever the act. -/
namespace Go.Proofs.Ythjjbaiijelhnaa
open Go.RowKit Go.Lib Go.Maps Go.WideMaps Go.Sort
set_option maxRecDepth 100000
/-- does, whatever the act. -/
theorem does_any (A u0 u c : Nat) (p q : Nat) (M : Nat → Prop) (s : J.St) (m : LM) (what key : Nat) (Av : Option Addr) (n cv : Nat) (val : J.B) (w : World) (hin : DoesIn A u0 u c p q M s m key Av n cv val w) :
    Calls Try.prog 32 #[.pointer (some ⟨p, 0, none⟩), .pointer (some ⟨q, 0, none⟩), actV what key Av n cv] w (DoesRes A u0 (u + c) p q M s m w) := by
  have hlt : what % 8 < 8 := Nat.mod_lt _ (by decide)
  have e : (what : Int).tmod 8 = ((what % 8 : Nat) : Int) := rfl
  have e2 : (key : Int).tmod 2 = ((key % 2 : Nat) : Int) := rfl
  have hlt2 : key % 2 < 2 := Nat.mod_lt _ (by decide)
  generalize what % 8 = k at hlt e
  generalize key % 2 = j at hlt2 e2
  cases ho : s.opn with
  | false =>
    match k, hlt with
    | 0, _ => exact does_beginC A u0 u c p q M s m what key Av n cv val w hin e ho
    | 1, _ => exact does_putC1 A u0 u c p q M s m what key Av n cv val w hin e ho
    | 2, _ => exact does_putC2 A u0 u c p q M s m what key Av n cv val w hin e ho
    | 3, _ => exact does_putC3 A u0 u c p q M s m what key Av n cv val w hin e ho
    | 4, _ => exact does_delC A u0 u c p q M s m what key Av n cv val w hin e ho
    | 5, _ => exact does_comC5 A u0 u c p q M s m what key Av n cv val w hin e ho
    | 6, _ => exact does_comC6 A u0 u c p q M s m what key Av n cv val w hin e ho
    | 7, _ =>
      match j, hlt2 with
      | 0, _ => exact does_abaC A u0 u c p q M s m what key Av n cv val w hin e e2 ho
      | 1, _ => exact does_cmpC A u0 u c p q M s m what key Av n cv val w hin e e2 ho
  | true =>
    match k, hlt with
    | 0, _ => exact does_beginO A u0 u c p q M s m what key Av n cv val w hin e ho
    | 1, _ => exact does_putO1 A u0 u c p q M s m what key Av n cv val w hin e ho
    | 2, _ => exact does_putO2 A u0 u c p q M s m what key Av n cv val w hin e ho
    | 3, _ => exact does_putO3 A u0 u c p q M s m what key Av n cv val w hin e ho
    | 4, _ =>
      cases hl : J.look s.now (keyL key) with
      | none => exact does_delN A u0 u c p q M s m what key Av n cv val w hin e ho hl
      | some l => exact does_delO A u0 u c p q M s m what key Av n cv val w hin e ho ⟨l, hl⟩
    | 5, _ => exact does_comO5 A u0 u c p q M s m what key Av n cv val w hin e ho
    | 6, _ => exact does_comO6 A u0 u c p q M s m what key Av n cv val w hin e ho
    | 7, _ =>
      match j, hlt2 with
      | 0, _ => exact does_abaO A u0 u c p q M s m what key Av n cv val w hin e e2 ho
      | 1, _ => exact does_cmpO A u0 u c p q M s m what key Av n cv val w hin e e2 ho
end Go.Proofs.Ythjjbaiijelhnaa
/- Law 30: a store of the law's own, and what its methods do, in one word each. -/
namespace Go.Proofs.Ythjjbaiijelhnaa
open Go.RowKit Go.Lib Go.Maps Go.WideMaps Go.Sort
set_option maxRecDepth 100000
/-- A store whose blocks are new since w0; nothing that lay in w0 has turned. -/
def At (w0 : World) (p : Nat) (s : J.St) (w : World) : Prop := ∃ M, StoreR w p M s ∧ (∀ k, M k → w0.heap.size ≤ k ∧ k < w.heap.size) ∧ Below w0.heap.size w0 w
section
variable {w0 w w' : World} {p : Nat} {s s' : J.St}
theorem At.bel (h : At w0 p s w) : Below w0.heap.size w0 w := h.elim fun _ h => h.2.2
theorem At.below (h : At w0 p s w) (hb : Below w.heap.size w w') : At w0 p s w' := by
  obtain ⟨M, h1, h2, h3⟩ := h
  exact ⟨M, h1.below hb, fun k hk => ⟨(h2 k hk).1, Nat.lt_of_lt_of_le (h2 k hk).2 hb.size⟩, h3.trans (hb.mono h3.size)⟩
theorem At.step {M M' : Nat → Prop} (h1 : ∀ k, M k → w0.heap.size ≤ k ∧ k < w.heap.size) (h2 : Below w0.heap.size w0 w) (hst : StoreR w' p M' s') (hs : Step M M' w w') : At w0 p s' w' := by
  refine ⟨fun k => M' k ∧ k < w'.heap.size, hst.cap, fun k hk => ⟨?_, hk.2⟩, below_tr h2 (hs.below h2.size (fun k hk => (h1 k hk).1))⟩
  by_cases hw : k < w.heap.size
  · exact (h1 k (hs.sub k hw hk.1)).1
  · have := h2.size; omega
theorem At.oth {q : Nat} (h : At w0 p s w) (hg : w.grownBy w' (some q)) (hq : ∀ M, StoreR w p M s → (∀ k, M k → w0.heap.size ≤ k ∧ k < w.heap.size) → ∃ M', StoreR w p M' s ∧ (∀ k, M' k → M k) ∧ ¬ M' q) (hnb : NoBy w q) (hw : w0.heap.size ≤ q) : At w0 p s w' := by
  obtain ⟨M, h1, h2, h3⟩ := h
  obtain ⟨M', g1, g2, g3⟩ := hq M h1 h2
  exact ⟨M', g1.oth (Oth.of_grown hg (fun k e => by injection e with e; subst e; exact ⟨g3, hnb⟩)), fun k hk => ⟨(h2 k (g2 k hk)).1, Nat.lt_of_lt_of_le (h2 k (g2 k hk)).2 hg.size⟩, h3.grown hg h3.size (fun k e => by injection e with e; subst e; exact hw)⟩
theorem at_new (w0 w : World) (hb : Below w0.heap.size w0 w) : Calls Try.prog 11 #[] w fun e w' => ∃ p, e = .returned (.pointer (some ⟨p, 0, none⟩)) ∧ At w0 p J.new w' := by
  refine (new_any w).mono ?_
  rintro e w' ⟨p, M, rfl, hst, hM, hb2⟩
  exact ⟨p, rfl, fun k => M k ∧ k < w'.heap.size, hst.cap, fun k hk => ⟨Nat.le_trans hb.size (hM k hk.1), hk.2⟩, hb.trans (hb2.mono hb.size)⟩
theorem at_begin (h : At w0 p s w) (ho : s.opn = false) : Calls Try.prog 12 #[.pointer (some ⟨p, 0, none⟩)] w fun e w' => e = .returned (.int .i64 0) ∧ At w0 p (J.begin_ s) w' := by
  obtain ⟨M, h1, h2, h3⟩ := h
  refine (begin_any p M s w h1 ho).mono ?_
  rintro e w' ⟨rfl, M', hst, hs⟩
  exact ⟨rfl, At.step h2 h3 hst hs⟩
theorem at_begin_open (h : At w0 p s w) (ho : s.opn = true) : Calls Try.prog 12 #[.pointer (some ⟨p, 0, none⟩)] w fun e w' => e = .returned (.int .i64 6) ∧ w = w' := by
  obtain ⟨M, h1, _, _⟩ := h
  exact begin_open p M s w h1 ho
theorem at_put (h : At w0 p s w) (ho : s.opn = true) (k val : J.B) (v : Value) (hk0 : k ≠ []) (hk : k.length ≤ 300) (hn : val.length ≤ 8192) (hv : Sl w NoM v val) (r : Int) (hr : J.add s ⟨k, val, false⟩ = (s', r)) :
    Calls Try.prog 13 #[.pointer (some ⟨p, 0, none⟩), .string ⟨k.toArray⟩, v] w fun e w' => e = .returned (.int .i64 r) ∧ At w0 p s' w' := by
  obtain ⟨M, h1, h2, h3⟩ := h
  have hp := put_ok p M s ⟨k.toArray⟩ v val w h1 ho (enc_key k hk0) (by rw [enc_size]; exact hk) hn NoM hv
  rw [show (⟨k.toArray⟩ : ByteArray).data.toList = k from rfl, hr] at hp
  refine hp.mono ?_
  rintro e w' ⟨rfl, M', hst, hs⟩
  exact ⟨rfl, At.step h2 h3 hst hs⟩
theorem at_put_shut (h : At w0 p s w) (ho : s.opn = false) (k : ByteArray) (A : Option Addr) (n c : Nat) :
    Calls Try.prog 13 #[.pointer (some ⟨p, 0, none⟩), .string k, .slice A n c] w fun e w' => e = .returned (.int .i64 6) ∧ w = w' := by
  obtain ⟨M, h1, _, _⟩ := h
  exact put_shut p M s k A n c w h1 ho
theorem at_put_empty (h : At w0 p s w) (ho : s.opn = true) (A : Option Addr) (n c : Nat) :
    Calls Try.prog 13 #[.pointer (some ⟨p, 0, none⟩), .string ⟨#[]⟩, .slice A n c] w fun e w' => e = .returned (.int .i64 1) ∧ w = w' := by
  obtain ⟨M, h1, _, _⟩ := h
  exact put_empty p M s ⟨#[]⟩ A n c w h1 ho (by rw [ByteArray.toList_eq])
theorem at_delete (h : At w0 p s w) (k : J.B) (hk : k.length ≤ 1000) (r : Int) (hr : J.delete s k = (s', r)) :
    Calls Try.prog 14 #[.pointer (some ⟨p, 0, none⟩), .string ⟨k.toArray⟩] w fun e w' => e = .returned (.int .i64 r) ∧ At w0 p s' w' := by
  obtain ⟨M, h1, h2, h3⟩ := h
  have hp := delete_any p M s ⟨k.toArray⟩ w h1 (by rw [enc_size]; exact hk)
  rw [show (⟨k.toArray⟩ : ByteArray).data.toList = k from rfl, hr] at hp
  refine hp.mono ?_
  rintro e w' ⟨rfl, M', hst, hs⟩
  exact ⟨rfl, At.step h2 h3 hst hs⟩
theorem at_commit (h : At w0 p s w) (ho : s.opn = true) (hsp : s.spoilt = false) (hs : CSmall s s.was) (hcm : s.commits + 1 < 4294967296) (har : s.area ≤ 1) (hfit : (s.disk.area s.area).length + (J.record 0 (s.commits + 1) s.changes).length ≤ 4194304) (n r : Int) (hr : J.commit s = (s', n, r)) :
    Calls Try.prog 15 #[.pointer (some ⟨p, 0, none⟩)] w fun e w' => e = .returned (.tuple #[.int .i64 n, .int .i64 r]) ∧ At w0 p s' w' := by
  obtain ⟨M, h1, h2, h3⟩ := h
  have hp := commit_anyfit p M s w h1 ho hsp hs hcm har hfit
  rw [hr] at hp
  refine hp.mono ?_
  rintro e w' ⟨rfl, M', hst, hs⟩
  exact ⟨rfl, At.step h2 h3 hst hs⟩
theorem at_compact (h : At w0 p s w) (ho : s.opn = false) (hs : CSmall s s.now) (r : Int) (hr : J.compact s s.now = (s', r)) :
    Calls Try.prog 18 #[.pointer (some ⟨p, 0, none⟩)] w fun e w' => e = .returned (.int .i64 r) ∧ At w0 p s' w' := by
  obtain ⟨M, h1, h2, h3⟩ := h
  have hp := compactS_any p M s w h1 ho hs
  rw [hr] at hp
  refine hp.mono ?_
  rintro e w' ⟨rfl, M', hst, hs⟩
  exact ⟨rfl, At.step h2 h3 hst hs⟩
theorem at_keys (h : At w0 p s w) (pre : ByteArray) (hl : s.now.length ≤ 1000000) :
    Calls Try.prog 21 #[.pointer (some ⟨p, 0, none⟩), .string pre] w fun e w' => ∃ A, e = .returned (.slice A (keysOf s.now pre).length (keysOf s.now pre).length) ∧ StrsAt w' A (keysOf s.now pre) ∧ At w0 p s w' ∧ Below w.heap.size w w' := by
  have h' := h
  obtain ⟨M, h1, h2, h3⟩ := h
  refine (keys_any p pre M s w h1 (by omega)).mono ?_
  rintro e w' ⟨A, rfl, hst, _, hb⟩
  exact ⟨A, rfl, hst, h'.below hb, hb⟩
theorem at_get (h : At w0 p s w) (k : J.B) (hk : k.length ≤ 1000) (hl : ∀ l, J.look s.now k = some l → l.length ≤ 90000000) :
    Calls Try.prog 22 #[.pointer (some ⟨p, 0, none⟩), .string ⟨k.toArray⟩] w fun e w' => ∃ v, e = .returned (.tuple #[v, .bool (J.look s.now k).isSome]) ∧ Slc w' (· < w.heap.size) v ((J.look s.now k).getD []) ∧ At w0 p s w' := by
  have h' := h
  obtain ⟨M, h1, h2, h3⟩ := h
  refine (getS_any p M s ⟨k.toArray⟩ w h1 (by rw [enc_size]; unfold maxLen; omega) hl).mono ?_
  rintro e w' ⟨v, rfl, hs, hb⟩
  exact ⟨v, rfl, hs, h'.below hb⟩
theorem at_writes (h : At w0 p s w) : Calls Try.prog 19 #[.pointer (some ⟨p, 0, none⟩)] w fun e w' => e = .returned (.int .i64 (s.writes.length : Nat)) ∧ w = w' := by
  obtain ⟨M, h1, _, _⟩ := h
  exact writes_any p M s w h1
theorem at_commits (h : At w0 p s w) : Calls Try.prog 24 #[.pointer (some ⟨p, 0, none⟩)] w fun e w' => e = .returned (.int .i64 (s.commits : Nat)) ∧ w = w' := by
  obtain ⟨M, h1, _, _⟩ := h
  exact commits_any p M s w h1
theorem at_image (h : At w0 p s w) : Calls Try.prog 17 #[.pointer (some ⟨p, 0, none⟩)] w fun e w' => ∃ v, e = .returned v ∧ ImgC w' (· < w.heap.size) v s.disk ∧ At w0 p s w' := by
  have h' := h
  obtain ⟨M, h1, h2, h3⟩ := h
  refine (image_any p M s w h1).mono ?_
  rintro e w' ⟨v, rfl, hi, hb⟩
  exact ⟨v, rfl, hi, h'.below hb⟩
theorem wok_sum : ∀ (l : List J.Wr) (x : J.Wr), x ∈ l → x.bs.length ≤ (l.map fun w => w.bs.length).sum
  | [], x, h => by cases h
  | a :: t, x, h => by
    simp only [List.map_cons, List.sum_cons]
    rcases List.mem_cons.1 h with rfl | h
    · omega
    · have := wok_sum t x h; omega
theorem fold_size : ∀ (l : List J.Wr) (m : J.Img) (n : Nat), m.h0.length ≤ n → m.h1.length ≤ n → m.a0.length ≤ n → m.a1.length ≤ n →
    (J.foldDone m l).h0.length ≤ n + (l.map fun w => w.bs.length).sum ∧ (J.foldDone m l).h1.length ≤ n + (l.map fun w => w.bs.length).sum ∧ (J.foldDone m l).a0.length ≤ n + (l.map fun w => w.bs.length).sum ∧ (J.foldDone m l).a1.length ≤ n + (l.map fun w => w.bs.length).sum
  | [], m, n, h0, h1, h2, h3 => ⟨h0, h1, h2, h3⟩
  | x :: t, m, n, h0, h1, h2, h3 => by
    have hd : (J.done m x x.bs.length).h0.length ≤ n + x.bs.length ∧ (J.done m x x.bs.length).h1.length ≤ n + x.bs.length ∧ (J.done m x x.bs.length).a0.length ≤ n + x.bs.length ∧ (J.done m x x.bs.length).a1.length ≤ n + x.bs.length := by
      unfold J.done J.Img.setArea J.Img.setHead J.Img.area J.Img.head
      split
      · split <;> (refine ⟨?_, ?_, ?_, ?_⟩ <;> simp only [List.length_append, List.length_take] <;> omega)
      · split
        · split <;> (refine ⟨?_, ?_, ?_, ?_⟩ <;> simp only [List.length_nil] <;> omega)
        · split <;> (refine ⟨?_, ?_, ?_, ?_⟩ <;> simp only [List.length_append, List.length_take, List.length_drop] <;> omega)
    have := fold_size t (J.done m x x.bs.length) (n + x.bs.length) hd.1 hd.2.1 hd.2.2.1 hd.2.2.2
    simp only [List.map_cons, List.sum_cons]
    show (J.foldDone (J.done m x x.bs.length) t).h0.length ≤ _ ∧ (J.foldDone (J.done m x x.bs.length) t).h1.length ≤ _ ∧ (J.foldDone (J.done m x x.bs.length) t).a0.length ≤ _ ∧ (J.foldDone (J.done m x x.bs.length) t).a1.length ≤ _
    omega
theorem sum_take (l : List J.Wr) (k : Nat) : ((l.take k).map fun w => w.bs.length).sum ≤ (l.map fun w => w.bs.length).sum := by
  conv => rhs; rw [← List.take_append_drop k l, List.map_append, List.sum_append]
  omega
theorem cutOk (h : J.WOk s) (hl : s.logged ≤ 16777216) : CutOk s := by
  have hs := h.sum
  refine ⟨fun wr hw => ?_, fun k => ?_⟩
  · obtain ⟨h1, h2, h3⟩ := h.wr wr hw
    have := wok_sum _ wr hw
    exact ⟨h1, h2, by omega, h3⟩
  · have h1 := fold_size (s.writes.take k) s.base 8388608 h.h0 h.h1 h.a0 h.a1
    have h2 := sum_take s.writes k
    omega
/-- Cut, where there is something to cut. -/
theorem at_cut (h : At w0 p s w) (hw : J.WOk s) (k t : Nat) (hk : k ≤ s.writes.length) (ht : t = 0 ∨ ∃ wr, s.writes[k]? = some wr ∧ t ≤ wr.bs.length) :
    Calls Try.prog 25 #[.pointer (some ⟨p, 0, none⟩), .int .i64 k, .int .i64 t] w fun e w' => ∃ v, e = .returned (.tuple #[v, .int .i64 0]) ∧ ImgC w' (· < w.heap.size) v (J.cutImg s k t) ∧ At w0 p s w' := by
  have h' := h
  obtain ⟨M, h1, h2, h3⟩ := h
  have ok : Ok s := h1.q.2
  have hc := cutOk hw ok.logged
  have hwl : s.writes.length ≤ 20000000 := by have := ok.writes; have := ok.logged; omega
  by_cases ht0 : t = 0
  · subst ht0
    refine (cut_whole p M s k w h1 hc hk hwl).mono ?_
    rintro e w' ⟨v, rfl, hi, hb⟩
    refine ⟨v, rfl, ?_, h'.below hb⟩
    have : J.cutImg s k 0 = J.foldDone s.base (s.writes.take k) := by unfold J.cutImg; cases s.writes[k]? <;> rfl
    rw [this]; exact hi
  · rcases ht with ht | ⟨wr, hwr, ht⟩
    · exact absurd ht ht0
    · obtain ⟨hlt, e⟩ := List.getElem?_eq_some_iff.1 hwr
      refine (cut_torn p M s k w h1 hc hlt t (by omega) (by rw [e]; exact ht) hwl).mono ?_
      rintro e' w' ⟨v, rfl, hi, hb⟩
      refine ⟨v, rfl, ?_, h'.below hb⟩
      have : J.cutImg s k t = J.done (J.foldDone s.base (s.writes.take k)) s.writes[k] t := by
        unfold J.cutImg
        rw [hwr]
        dsimp only
        rw [if_neg ht0, e]
      rw [this]; exact hi
theorem at_cut_none (h : At w0 p s w) (W T : Int) (hn : NoCut s W T) :
    Calls Try.prog 25 #[.pointer (some ⟨p, 0, none⟩), .int .i64 W, .int .i64 T] w fun e w' => e = .returned (.tuple #[nilI, .int .i64 13]) ∧ At w0 p s w' := by
  have h' := h
  obtain ⟨M, h1, h2, h3⟩ := h
  refine (cut_none p M s W T w h1 hn).mono ?_
  rintro e w' ⟨rfl, hb⟩
  exact ⟨rfl, h'.below hb⟩
end
/-- Recover of an image that is read. -/
def RecRes2 (w0 w : World) (m : J.Img) (e : Ending) (w' : World) : Prop :=
  match J.recover m with
  | .ok s => ∃ p, e = .returned (.tuple #[.pointer (some ⟨p, 0, none⟩), .int .i64 0]) ∧ At w0 p s w' ∧ Below w.heap.size w w'
  | .error er => e = .returned (.tuple #[.pointer none, .int .i64 er]) ∧ Below w.heap.size w w'
theorem at_recover (w0 : World) (m : J.Img) (v0 v1 v2 v3 : Value) (w : World) (hb : Below w0.heap.size w0 w) (q0 : Sl w NoM v0 m.h0) (q1 : Sl w NoM v1 m.h1) (q2 : Sl w NoM v2 m.a0) (q3 : Sl w NoM v3 m.a1) (z0 : m.h0.length ≤ 90000000) (z1 : m.h1.length ≤ 90000000) (z2 : m.a0.length ≤ 8388608) (z3 : m.a1.length ≤ 8388608) :
    Calls Try.prog 20 #[imgW v0 v1 v2 v3] w (RecRes2 w0 w m) := by
  obtain ⟨A0, c0, rfl⟩ := q0.slice_
  obtain ⟨A1, c1, rfl⟩ := q1.slice_
  obtain ⟨A2, c2, rfl⟩ := q2.slice_
  obtain ⟨A3, c3, rfl⟩ := q3.slice_
  refine (recover_small A0 A1 A2 A3 c0 c1 c2 c3 m NoM w q0 q1 q2 q3 z0 z1 z2 z3 (by omega)).mono ?_
  intro e w' hr
  unfold RecRes at hr
  unfold RecRes2
  cases h : J.recover m with
  | error er =>
    rw [h] at hr
    exact hr
  | ok s =>
    rw [h] at hr
    obtain ⟨p, M, rfl, hst, hM, hb2⟩ := hr
    exact ⟨p, rfl, ⟨fun k => M k ∧ k < w'.heap.size, hst.cap, fun k hk => ⟨Nat.le_trans hb.size (hM k hk.1), hk.2⟩, hb.trans (hb2.mono hb.size)⟩, hb2⟩
theorem At.ok {w0 w : World} {p : Nat} {s : J.St} (h : At w0 p s w) : Ok s := h.elim fun _ h => h.1.q.2
/-- Recover of a disk that holds. -/
theorem at_recover_holds (w0 : World) (m : J.Img) (commits : Nat) (now : List (J.B × J.B)) (hh : J.Img.Holds True m commits now) (v0 v1 v2 v3 : Value) (w : World) (hb : Below w0.heap.size w0 w) (q0 : Sl w NoM v0 m.h0) (q1 : Sl w NoM v1 m.h1) (q2 : Sl w NoM v2 m.a0) (q3 : Sl w NoM v3 m.a1) (z0 : m.h0.length ≤ 90000000) (z1 : m.h1.length ≤ 90000000) :
    Calls Try.prog 20 #[imgW v0 v1 v2 v3] w fun e w' => ∃ p at_, e = .returned (.tuple #[.pointer (some ⟨p, 0, none⟩), .int .i64 0]) ∧ At w0 p (J.recovered m at_ commits now) w' ∧ at_ ≤ (m.area (J.current m.h0 m.h1).2.1).length ∧ J.Reads (J.current m.h0 m.h1).1 (m.area (J.current m.h0 m.h1).2.1) 0 0 [] at_ commits now ∧ (0 < (J.current m.h0 m.h1).1 → 0 < at_) ∧ Below w.heap.size w w' := by
  refine (at_recover w0 m v0 v1 v2 v3 w hb q0 q1 q2 q3 z0 z1 hh.a0 hh.a1).mono ?_
  intro e w' hr
  obtain ⟨at_, h1, h2, h3, h4⟩ := hh.recover
  unfold RecRes2 at hr
  rw [h1] at hr
  obtain ⟨p, rfl, ha, hb2⟩ := hr
  exact ⟨p, at_, rfl, ha, h2, h3, h4 trivial, hb2⟩
theorem run_field_heads (A0 A1 A2 A3 : Option Addr) (n0 n1 n2 n3 c0 c1 c2 c3 : Nat) (w : World) : (Instr.field 35 (imgW (.slice A0 n0 c0) (.slice A1 n1 c1) (.slice A2 n2 c2) (.slice A3 n3 c3)) 0).run Try.prog w = .ok (.agg #[.slice A0 n0 c0, .slice A1 n1 c1]) w := by kernel_rfl
theorem run_field_areas (A0 A1 A2 A3 : Option Addr) (n0 n1 n2 n3 c0 c1 c2 c3 : Nat) (w : World) : (Instr.field 35 (imgW (.slice A0 n0 c0) (.slice A1 n1 c1) (.slice A2 n2 c2) (.slice A3 n3 c3)) 1).run Try.prog w = .ok (.agg #[.slice A2 n2 c2, .slice A3 n3 c3]) w := by kernel_rfl
end Go.Proofs.Ythjjbaiijelhnaa
/- Law 30, the plain half of lives. -/
namespace Go.Proofs.Ythjjbaiijelhnaa
open Go.RowKit Go.Lib Go.Maps Go.WideMaps Go.Sort
set_option maxRecDepth 100000
namespace J
def addc (s : St) (x : Chg) : St := apply { s with changes := s.changes ++ [x], size := s.size + x.len } x
theorem add_room {s : St} {x : Chg} (h : ¬ 4194304 - s.size < x.len) : add s x = (addc s x, 0) := by unfold add; rw [if_neg h]; rfl
theorem HistNext.sameC {s s' : St} {m m' : LM} (h : HistNext s m s' m') (e : m'.commits = m.commits) {b : Nat} {st : List (List (B × B))} {at_ : List Nat} (hh : Hist True s b st at_) : Hist True s' b st at_ := by
  rcases h b st at_ hh with ⟨_, h⟩ | ⟨e2, _⟩
  · exact h
  · omega
theorem HistNext.com {s s' : St} {m m' : LM} (h : HistNext s m s' m') (e : m'.commits = m.commits + 1) {b : Nat} {st : List (List (B × B))} {at_ : List Nat} (hh : Hist True s b st at_) : Hist True s' b (st ++ [m'.now]) (at_ ++ [s'.writes.length]) := by
  rcases h b st at_ hh with ⟨e2, _⟩ | ⟨_, h⟩
  · omega
  · exact h
def lm0 : LM := ⟨[], [], false, 0⟩
theorem kept_new (u : Nat) : Kept 0 0 u new lm0 :=
  ⟨inv_new True, ⟨fun e => (by cases e), fun p hp => (by cases hp), fun e => (by cases e), Nat.zero_le _, fun e => (by cases e), Nat.zero_le _, Nat.le_refl _, Nat.le_refl _, Nat.zero_le _, Nat.zero_le _, fun e => (by cases e), fun w hw => (by cases hw)⟩,
    ⟨rfl, fun w hw => (by cases hw), by decide, by decide, by decide, by decide⟩, ⟨rfl, rfl, rfl, fun e => (by cases e)⟩, ⟨Nat.le_refl _, Nat.le_refl _, ⟨.inl rfl, fun g a e => (by have e : valid ([] : B) = some (g, a) := e; rw [valid_nil] at e; cases e)⟩, ⟨.inl rfl, fun g a e => (by have e : valid ([] : B) = some (g, a) := e; rw [valid_nil] at e; cases e)⟩, fun w hw => (by cases hw), fun _ => ⟨0, rfl, fun i w hw => (by simp [new] at hw)⟩⟩⟩
theorem hist_new : Hist True new 0 [[]] [0] := hist_base (inv_new True) rfl
/-- A change is added, as the law says it. -/
theorem kept_addc {A u0 u c : Nat} {s : St} {m : LM} (h : Kept A u0 u s m) (ho : s.opn = true) (ok : Ok s) (x : Chg) (k : Nat) (hk : x.key = keyL k) (hv : x.val.length ≤ 8 * c) (hv2 : x.val.length ≤ 8192) (hc : 1 ≤ c) (hg : x.gone = true → x.val = [] ∧ look s.now x.key ≠ none) :
    Kept A u0 (u + c) (addc s x) { m with now := if x.gone then del m.now x.key else ins m.now x.key x.val } ∧ HistNext s m (addc s x) { m with now := if x.gone then del m.now x.key else ins m.now x.key x.val } := kept_add h ho ok x k hk hv hv2 hc hg
def ch1 : Chg := ⟨[97], [49], false⟩
def ch2 : Chg := ⟨[98], [50], false⟩
def ch3 : Chg := ⟨[97], [], true⟩
def lv0 : St := begin_ new
def lv1 : St := addc lv0 ch1
def lvA : St := addc lv1 ch2
def lvB : St := committed lvA
def lv3 : St := begin_ lvB
def lvC : St := addc lv3 ch3
def lvD : St := committed lvC
def lvE : St := compacted lvD lvD.now
theorem lim9 : Lim 0 0 9 := ⟨by decide, by decide⟩
theorem lv_D (o1 : Ok lv0) (o2 : Ok lv1) (o3 : Ok lvA) (o4 : Ok lv3) (o5 : Ok lvC) (o6 : Ok lvD) :
    Kept 0 0 7 lvD ⟨[([98], [50])], [([97], [49]), ([98], [50])], false, 2⟩ ∧ Hist True lvD 0 [[], [([97], [49]), ([98], [50])], [([98], [50])]] [0, 1, 2] ∧
    Kept 0 0 8 lvE ⟨[([98], [50])], [([97], [49]), ([98], [50])], false, 2⟩ ∧ Hist True lvE 0 [[], [([97], [49]), ([98], [50])], [([98], [50])]] [0, 1, 2] := by
  obtain ⟨k1, n1⟩ := kept_begin (c := 1) (kept_new 0) rfl (Nat.le_refl _)
  obtain ⟨k2, n2⟩ := kept_addc (c := 1) k1 rfl o1 ch1 0 rfl (by decide) (by decide) (Nat.le_refl _) (fun e => by cases e)
  obtain ⟨k3, n3⟩ := kept_addc (c := 1) k2 rfl o2 ch2 1 rfl (by decide) (by decide) (Nat.le_refl _) (fun e => by cases e)
  obtain ⟨k4, n4⟩ := kept_commit (c := 1) k3 ⟨by decide, by decide⟩ o3 rfl (Nat.le_refl _)
  obtain ⟨k5, n5⟩ := kept_begin (c := 1) k4 rfl (Nat.le_refl _)
  obtain ⟨k6, n6⟩ := kept_addc (c := 1) k5 rfl o4 ch3 0 rfl (by decide) (by decide) (Nat.le_refl _) (fun _ => ⟨rfl, by decide +kernel⟩)
  obtain ⟨k7, n7⟩ := kept_commit (c := 1) k6 ⟨by decide, by decide⟩ o5 rfl (Nat.le_refl _)
  obtain ⟨_, k8, n8⟩ := kept_compact (c := 1) k7 ⟨by decide, by decide⟩ o6 rfl (Nat.le_refl _)
  have h4 := n4.com rfl (n3.sameC rfl (n2.sameC rfl (n1.sameC rfl hist_new)))
  have h7 := n7.com rfl (n6.sameC rfl (n5.sameC rfl h4))
  have h8 := n8.sameC rfl h7
  exact ⟨k7, h7, k8, h8⟩
end J
end Go.Proofs.Ythjjbaiijelhnaa
/- Law 30: a store that is none: nil, or the zero one. -/
namespace Go.Proofs.Ythjjbaiijelhnaa
open Go.RowKit Go.Lib Go.Maps Go.WideMaps Go.Sort
set_option maxRecDepth 100000
/-- The value is no store, now and behind whatever is new. -/
def NR (r : Option Addr) (w : World) : Prop := ∀ w', Below w.heap.size w w' → Calls Try.prog 44 #[.pointer r] w' fun e w'' => e = .returned (.bool false) ∧ w' = w''
theorem NR.below {r : Option Addr} {w w' : World} (h : NR r w) (hb : Below w.heap.size w w') : NR r w' := fun w2 hb2 => h w2 (hb.trans (hb2.mono hb.size))
theorem nr_nil (w : World) : NR none w := fun w' _ => by
  go_enter Try.func44, Try.ntmps44
  go_wp2
  go_ret
  exact ⟨rfl, rfl⟩
theorem nr_zero (z : Nat) (w : World) (h : w.cell? ⟨z, 0, none⟩ = some (.bool false)) : NR (some ⟨z, 0, none⟩) w := fun w' hb => by
  have hz : z < w.heap.size := World.block_lt_of_cell? w ⟨z, 0, none⟩ h
  have hc := (hb.cell (p := ⟨z, 0, none⟩) hz).trans h
  clear hb h hz
  go_enter Try.func44, Try.ntmps44
  go_wp2
  go_ret
  exact ⟨rfl, rfl⟩
section
variable {r : Option Addr} {w : World}
theorem nr_state (h : NR r w) (b : Bool) : Calls Try.prog 37 #[.pointer r, .bool b] w fun e w' => e = .returned (.int .i64 2) ∧ w = w' := by
  have H := Lib.hid (h w (Below.refl _ _))
  clear h
  go_enter Try.func37, Try.ntmps37
  go_wp2_with fail
  refine H.out.mono ?_
  rintro e w1 ⟨rfl, rfl⟩
  go_wp2
  go_ret
  exact ⟨rfl, rfl⟩
theorem nr_begin (h : NR r w) : Calls Try.prog 12 #[.pointer r] w fun e w' => e = .returned (.int .i64 2) ∧ w = w' := by
  have H := Lib.hid (nr_state h false)
  clear h
  go_enter Try.func12, Try.ntmps12
  go_wp2_with fail
  refine H.out.mono ?_
  rintro e w1 ⟨rfl, rfl⟩
  go_wp2
  go_ret
  exact ⟨rfl, rfl⟩
theorem nr_compact (h : NR r w) : Calls Try.prog 18 #[.pointer r] w fun e w' => e = .returned (.int .i64 2) ∧ w = w' := by
  have H := Lib.hid (nr_state h false)
  clear h
  go_enter Try.func18, Try.ntmps18
  go_wp2_with fail
  refine H.out.mono ?_
  rintro e w1 ⟨rfl, rfl⟩
  go_wp2
  go_ret
  exact ⟨rfl, rfl⟩
theorem nr_abandon (h : NR r w) : Calls Try.prog 26 #[.pointer r] w fun e w' => e = .returned (.int .i64 2) ∧ w = w' := by
  have H := Lib.hid (nr_state h true)
  clear h
  go_enter Try.func26, Try.ntmps26
  go_wp2_with fail
  refine H.out.mono ?_
  rintro e w1 ⟨rfl, rfl⟩
  go_wp2
  go_ret
  exact ⟨rfl, rfl⟩
theorem nr_delete (h : NR r w) (k : ByteArray) : Calls Try.prog 14 #[.pointer r, .string k] w fun e w' => e = .returned (.int .i64 2) ∧ w = w' := by
  have H := Lib.hid (nr_state h true)
  clear h
  go_enter Try.func14, Try.ntmps14
  go_wp2_with fail
  refine H.out.mono ?_
  rintro e w1 ⟨rfl, rfl⟩
  go_wp2
  go_ret
  exact ⟨rfl, rfl⟩
theorem nr_put (h : NR r w) (k : ByteArray) (A : Option Addr) (n c : Nat) : Calls Try.prog 13 #[.pointer r, .string k, .slice A n c] w fun e w' => e = .returned (.int .i64 2) ∧ w = w' := by
  have H := Lib.hid (nr_state h true)
  clear h
  go_enter Try.func13, Try.ntmps13
  go_wp2_with fail
  refine H.out.mono ?_
  rintro e w1 ⟨rfl, rfl⟩
  go_wp2
  go_ret
  exact ⟨rfl, rfl⟩
theorem nr_commit (h : NR r w) : Calls Try.prog 15 #[.pointer r] w fun e w' => e = .returned (.tuple #[.int .i64 0, .int .i64 2]) ∧ w = w' := by
  have H := Lib.hid (nr_state h true)
  clear h
  go_enter Try.func15, Try.ntmps15
  go_wp2_with fail
  refine H.out.mono ?_
  rintro e w1 ⟨rfl, rfl⟩
  go_wp2
  go_ret2
  exact ⟨rfl, rfl⟩
theorem nr_commits (h : NR r w) : Calls Try.prog 24 #[.pointer r] w fun e w' => e = .returned (.int .i64 0) ∧ w = w' := by
  have H := Lib.hid (h w (Below.refl _ _))
  clear h
  go_enter Try.func24, Try.ntmps24
  go_wp2_with fail
  refine H.out.mono ?_
  rintro e w1 ⟨rfl, rfl⟩
  go_wp2
  go_ret
  exact ⟨rfl, rfl⟩
theorem nr_writes (h : NR r w) : Calls Try.prog 19 #[.pointer r] w fun e w' => e = .returned (.int .i64 0) ∧ w = w' := by
  have H := Lib.hid (h w (Below.refl _ _))
  clear h
  go_enter Try.func19, Try.ntmps19
  go_wp2_with fail
  refine H.out.mono ?_
  rintro e w1 ⟨rfl, rfl⟩
  go_wp2
  go_ret
  exact ⟨rfl, rfl⟩
theorem nr_keys (h : NR r w) (k : ByteArray) : Calls Try.prog 21 #[.pointer r, .string k] w fun e w' => e = .returned (.slice none 0 0) ∧ w = w' := by
  have H := Lib.hid (h w (Below.refl _ _))
  clear h
  go_enter Try.func21, Try.ntmps21
  go_wp2_with fail
  refine H.out.mono ?_
  rintro e w1 ⟨rfl, rfl⟩
  go_wp2
  go_ret
  exact ⟨rfl, rfl⟩
theorem nr_get (h : NR r w) (k : ByteArray) : Calls Try.prog 22 #[.pointer r, .string k] w fun e w' => e = .returned (.tuple #[.slice none 0 0, .bool false]) ∧ w = w' := by
  have H := Lib.hid (h w (Below.refl _ _))
  clear h
  go_enter Try.func22, Try.ntmps22
  go_wp2_with fail
  refine H.out.mono ?_
  rintro e w1 ⟨rfl, rfl⟩
  go_wp2
  go_ret2
  exact ⟨rfl, rfl⟩
end
end Go.Proofs.Ythjjbaiijelhnaa
/- Law 30: a store that is none: Image, Cut, After. -/
namespace Go.Proofs.Ythjjbaiijelhnaa
open Go.RowKit Go.Lib Go.Maps Go.WideMaps Go.Sort
set_option maxRecDepth 100000
section
variable {r : Option Addr} {w : World}
theorem img_zero (w WW : World) (hX : WW.heap[w.heap.size]? = some (.cells #[.slice none 0 0, .slice none 0 0, .slice none 0 0, .slice none 0 0] 35 (0, 0))) (hB : Below w.heap.size w WW) :
    ∀ (w' : World), w' = (((WW.setCell ⟨w.heap.size, 0, none⟩ (.slice none 0 0)).setCell ⟨w.heap.size, 1, none⟩ (.slice none 0 0)).setCell ⟨w.heap.size, 2, none⟩ (.slice none 0 0)).setCell ⟨w.heap.size, 3, none⟩ (.slice none 0 0) → w'.heap[w.heap.size]? = some (.cells #[.slice none 0 0, .slice none 0 0, .slice none 0 0, .slice none 0 0] 35 (0, 0)) ∧ Below w.heap.size w w' := by
  rintro w' rfl
  have hg := grown_set (grown_set (grown_set (grown_set (World.grownBy.refl WW (some w.heap.size)) 0 (.slice none 0 0)) 1 (.slice none 0 0)) 2 (.slice none 0 0)) 3 (.slice none 0 0)
  exact ⟨blk_set (blk_set (blk_set (blk_set hX 0 (.slice none 0 0)) 1 (.slice none 0 0)) 2 (.slice none 0 0)) 3 (.slice none 0 0), hB.grown hg hB.size (fun k e => by cases e; exact Nat.le_refl _)⟩
theorem nr_image (h : NR r w) : Calls Try.prog 17 #[.pointer r] w fun e w' => e = .returned nilI ∧ Below w.heap.size w w' := by
  have hB : Below w.heap.size w (w.alloc (.cells #[.slice none 0 0, .slice none 0 0, .slice none 0 0, .slice none 0 0] 35)) := (Below.refl _ _).alloc (Nat.le_refl _) _
  have H := Lib.hid (h _ hB)
  have HB := Lib.hid hB
  have HX := Lib.hid (heap_alloc_new w (.cells #[.slice none 0 0, .slice none 0 0, .slice none 0 0, .slice none 0 0] 35))
  clear h hB
  go_enter Try.func17, Try.ntmps17
  go_wp2_with fail
  refine H.out.mono ?_
  rintro e w1 ⟨rfl, rfl⟩
  generalize w.alloc (.cells #[.slice none 0 0, .slice none 0 0, .slice none 0 0, .slice none 0 0] 35) = WW at HB HX ⊢
  have hcr := fun i => cell_of_row WW w.heap.size i _ _ _ HX.out
  have hfr := frozen_row HX.out
  have FIN := Lib.hid (img_zero w WW HX.out HB.out)
  go_wp2_with fail
  refine bodyPost_ret (results_cell_row rfl _ _ w.heap.size _ _ _ _ rfl (FIN.out _ rfl).1 Try.underlying35 rfl (by kernel_rfl)) rfl ?_
  exact ⟨rfl, (FIN.out _ rfl).2⟩
theorem nr_cut (h : NR r w) (a b : Int) : Calls Try.prog 25 #[.pointer r, .int .i64 a, .int .i64 b] w fun e w' => e = .returned (.tuple #[nilI, .int .i64 2]) ∧ Below w.heap.size w w' := by
  have hB : Below w.heap.size w (w.alloc (.cells #[.slice none 0 0, .slice none 0 0, .slice none 0 0, .slice none 0 0] 35)) := (Below.refl _ _).alloc (Nat.le_refl _) _
  have H := Lib.hid (h _ hB)
  have HB := Lib.hid hB
  have HX := Lib.hid (heap_alloc_new w (.cells #[.slice none 0 0, .slice none 0 0, .slice none 0 0, .slice none 0 0] 35))
  clear h hB
  go_enter Try.func25, Try.ntmps25
  go_wp2_with fail
  refine H.out.mono ?_
  rintro e w1 ⟨rfl, rfl⟩
  generalize w.alloc (.cells #[.slice none 0 0, .slice none 0 0, .slice none 0 0, .slice none 0 0] 35) = WW at HB HX ⊢
  have hcr := fun i => cell_of_row WW w.heap.size i _ _ _ HX.out
  have hfr := frozen_row HX.out
  have FIN := Lib.hid (img_zero w WW HX.out HB.out)
  go_wp2_with fail
  refine bodyPost_ret (results_row_tmp rfl _ _ w.heap.size _ _ _ _ rfl (FIN.out _ rfl).1 Try.underlying35 rfl (by kernel_rfl)) rfl ?_
  exact ⟨rfl, (FIN.out _ rfl).2⟩
theorem nr_after (h : NR r w) (a b : ByteArray) (sm : Bool) : Calls Try.prog 27 #[.pointer r, .string a, .string b, .bool sm] w fun e w' => e = .returned (.tuple #[.string ⟨#[]⟩, .bool false]) ∧ Below w.heap.size w w' := by
  have hB : Below w.heap.size w ((((w.alloc (.cells #[.string b] 9)).alloc (.cells #[.bool sm] 4)).alloc (.cells #[.string ⟨#[]⟩] 9)).alloc (.cells #[.bool false] 4)) := ((((Below.refl _ _).alloc (Nat.le_refl _) _).alloc (by simp) _).alloc (by simp; omega) _).alloc (by simp; omega) _
  have H := Lib.hid (h _ hB)
  have HB := Lib.hid hB
  have h8 := (heap_alloc_new ((w.alloc (.cells #[.string b] 9)).alloc (.cells #[.bool sm] 4)) (.cells #[.string ⟨#[]⟩] 9))
  have h9 := (heap_alloc_new (((w.alloc (.cells #[.string b] 9)).alloc (.cells #[.bool sm] 4)).alloc (.cells #[.string ⟨#[]⟩] 9)) (.cells #[.bool false] 4))
  have h8' := (Below.heap_alloc _ (.cells #[.bool false] 4) _ (Array.getElem?_eq_some_iff.1 h8).1).trans h8
  simp only [World.size_alloc] at h8' h9
  have H8 := Lib.hid h8'
  have H9 := Lib.hid h9
  clear h hB h8 h9 h8'
  go_enter Try.func27, Try.ntmps27
  go_wp2_with fail
  refine H.out.mono ?_
  rintro e w1 ⟨rfl, rfl⟩
  generalize (((w.alloc (.cells #[.string b] 9)).alloc (.cells #[.bool sm] 4)).alloc (.cells #[.string ⟨#[]⟩] 9)).alloc (.cells #[.bool false] 4) = WW at HB H8 H9 ⊢
  have hc8 := fun i => cell_of_row WW _ i _ _ _ H8.out
  have hf8 := frozen_row H8.out
  have hc9 := fun i => cell_of_row WW _ i _ _ _ H9.out
  have hf9 := frozen_row H9.out
  go_wp2_with fail
  have r8 := set_far1 (g' := w.heap.size + 1 + 1 + 1) (i := 0) (u := .bool false) (blk_set H8.out 0 (.string ⟨#[]⟩)) (by omega)
  have r9 := blk_set (set_far1 (g' := w.heap.size + 1 + 1) (i := 0) (u := .string ⟨#[]⟩) H9.out (by omega)) 0 (.bool false)
  have c8 := cell_of_row _ _ 0 _ _ _ r8
  have c9 := cell_of_row _ _ 0 _ _ _ r9
  have hb : Below w.heap.size w ((WW.setCell ⟨w.heap.size + 1 + 1, 0, none⟩ (.string ⟨#[]⟩)).setCell ⟨w.heap.size + 1 + 1 + 1, 0, none⟩ (.bool false)) := (HB.out.setCell (p := ⟨w.heap.size + 1 + 1, 0, none⟩) (by show w.heap.size ≤ w.heap.size + 1 + 1; omega) _).setCell (p := ⟨w.heap.size + 1 + 1 + 1, 0, none⟩) (by show w.heap.size ≤ w.heap.size + 1 + 1 + 1; omega) _
  refine bodyPost_ret (v := .tuple #[.string ⟨#[]⟩, .bool false]) ?_ rfl ⟨rfl, hb⟩
  simp [results, Try.f27, go_sem, c8, c9]
end
end Go.Proofs.Ythjjbaiijelhnaa
/- Law 30, JournalsErrors: the store behind the put, and what may be cut from it. -/
namespace Go.Proofs.Ythjjbaiijelhnaa
open Go.RowKit Go.Lib Go.Maps Go.WideMaps Go.Sort
set_option maxRecDepth 100000
namespace J
def errC (kl : B) (N : Nat) : Chg := ⟨kl, List.replicate N 0, false⟩
def errR (kl : B) (N : Nat) : Int := if kl = [] ∨ 300 < kl.length then 1 else if 8192 < N then 3 else 0
def errS (kl : B) (N : Nat) : St := if kl = [] ∨ 300 < kl.length then begin_ new else if 8192 < N then begin_ new else addc (begin_ new) (errC kl N)
theorem errS_or (kl : B) (N : Nat) : (errR kl N ≠ 0 ∧ errS kl N = begin_ new) ∨ (kl ≠ [] ∧ kl.length ≤ 300 ∧ N ≤ 8192 ∧ errR kl N = 0 ∧ errS kl N = addc (begin_ new) (errC kl N)) := by
  unfold errR errS
  by_cases h : kl = [] ∨ 300 < kl.length
  · rw [if_pos h, if_pos h]; exact .inl ⟨by decide, rfl⟩
  · rw [if_neg h, if_neg h]
    by_cases h2 : 8192 < N
    · rw [if_pos h2, if_pos h2]; exact .inl ⟨by decide, rfl⟩
    · rw [if_neg h2, if_neg h2]; exact .inr ⟨fun e => h (.inl e), by have := fun e => h (.inr e); omega, by omega, rfl, rfl⟩
/-- What is known of the store. -/
structure ErrF (s : St) (kl : B) : Prop where
  opn : s.opn = true
  sp : s.spoilt = false
  was : s.was = []
  com : s.commits = 0
  ar : s.area = 0
  disk : s.disk = img0
  base : s.base = img0
  wr : s.writes = []
  lg : s.logged = 0
  x : look s.now (kl ++ [120]) = none
  len : (record 0 1 s.changes).length ≤ 9000
theorem errF (kl : B) (N : Nat) : ErrF (errS kl N) kl := by
  rcases errS_or kl N with ⟨_, e⟩ | ⟨h1, h2, h3, _, e⟩
  · rw [e]
    exact ⟨rfl, rfl, rfl, rfl, rfl, rfl, rfl, rfl, rfl, rfl, by rw [record_len]; decide⟩
  · rw [e]
    refine ⟨rfl, rfl, rfl, rfl, rfl, rfl, rfl, rfl, rfl, ?_, ?_⟩
    · show look (ins [] kl (List.replicate N 0)) (kl ++ [120]) = none
      rw [look_ins, if_neg (by intro h; have := congrArg List.length h; simp at this)]
      rfl
    · rw [record_len]
      show 13 + (encs [errC kl N]).length ≤ _
      rw [encs_cons]
      simp only [Chg.len, errC, List.length_replicate, Bool.false_eq_true, if_false]
      show 13 + (3 + kl.length + (4 + N) + 0) ≤ _
      omega
theorem err_csmall {s : St} {kl : B} (h : ErrF s kl) : CSmall s s.was := by
  rw [h.was]
  exact ⟨by decide, by rw [h.com]; decide, fun p hp => by cases hp⟩
theorem err_fit {s : St} {kl : B} (h : ErrF s kl) : (s.disk.area s.area).length + (record 0 (s.commits + 1) s.changes).length ≤ 4194304 := by
  have := h.len
  rw [h.disk, h.ar, h.com]
  show 0 + (record 0 1 s.changes).length ≤ _
  omega
theorem err_commit {s : St} {kl : B} (h : ErrF s kl) : commit s = (committed s, 1, 0) := by
  have hf := err_fit h
  have hl := h.len
  unfold commit
  rw [if_neg (by rw [h.opn]; simp), if_neg (by rw [h.sp]; simp), if_pos (show fits s _ = true from decide_eq_true hf)]
  unfold commitEnd
  rw [show fits s (record 0 (s.commits + 1) s.changes) = true from decide_eq_true hf, show decide ((record 0 (s.commits + 1) s.changes).length ≤ 16777216 - s.logged) = true from decide_eq_true (by rw [h.com, h.lg]; show (record 0 1 s.changes).length ≤ _; omega)]
  rw [h.com]; rfl
/-- The store behind the commit. -/
structure ErrG (s : St) (R : Nat) : Prop where
  wr : ∃ w : Wr, s.writes = [w] ∧ w.bs.length = R
  wok : WOk s
  a0 : s.disk.a0.length = R
  pos : 0 < R
  small : R ≤ 9000
theorem errG {s : St} {kl : B} (h : ErrF s kl) : ErrG (committed s) (record 0 1 s.changes).length := by
  have e1 : (committed s).writes = s.writes ++ [⟨0, s.area, record 0 (s.commits + 1) s.changes⟩] := rfl
  have e2 : (committed s).disk = s.disk.setArea s.area (s.disk.area s.area ++ (record 0 (s.commits + 1) s.changes).take (record 0 (s.commits + 1) s.changes).length) := rfl
  have hp : 0 < (record 0 1 s.changes).length := by rw [record_len]; omega
  refine ⟨⟨_, by rw [e1, h.wr]; rfl, by rw [h.com]⟩, ?_, ?_, hp, h.len⟩
  · have w0 : WOk s := ⟨by rw [h.lg, h.wr]; rfl, fun w hw => (by rw [h.wr] at hw; cases hw), by rw [h.base]; decide, by rw [h.base]; decide, by rw [h.base]; decide, by rw [h.base]; decide⟩
    exact (w0.write ⟨0, s.area, record 0 (s.commits + 1) s.changes⟩ ⟨Nat.zero_le _, by show s.area ≤ 1; rw [h.ar]; decide, fun _ => by show 0 < (record 0 (s.commits + 1) s.changes).length; rw [h.com]; exact hp⟩).same rfl rfl rfl
  · rw [e2, h.disk, h.ar, h.com, List.take_length]
    show ([] ++ _).length = _
    rw [List.nil_append]
def errOk (z0 z1 : Int) (R : Nat) : Prop := (z0 = 1 ∧ z1 = 0) ∨ (z0 = 0 ∧ 0 ≤ z1 ∧ z1 ≤ (R : Int))
theorem err_no {s : St} {R : Nat} (h : ErrG s R) (z0 z1 : Int) (hn : ¬ errOk z0 z1 R) : NoCut s z0 z1 := by
  obtain ⟨w, e, hw⟩ := h.wr
  have hl : s.writes.length = 1 := by rw [e]; rfl
  unfold NoCut
  by_cases h1 : z0 < 0
  · exact .inl h1
  by_cases h2 : 1 < z0
  · exact .inr (.inl (by omega))
  by_cases h3 : z1 < 0
  · exact .inr (.inr (.inl h3))
  refine .inr (.inr (.inr ?_))
  unfold errOk at hn
  by_cases h4 : z0 = 1
  · exact ⟨by have : z1 ≠ 0 := fun e => hn (.inl ⟨h4, e⟩)
              omega, .inl (by omega)⟩
  · have h5 : z0 = 0 := by omega
    have h6 : (R : Int) < z1 := by
      by_cases h7 : z1 ≤ (R : Int)
      · exact absurd (.inr ⟨h5, by omega, h7⟩) hn
      · omega
    exact ⟨by omega, .inr ⟨0, by omega, h5, by simp only [e, List.getElem_cons_zero]; rw [hw]; exact h6⟩⟩
end J
theorem err_put {w0 w : World} {p : Nat} (h : At w0 p (J.begin_ J.new) w) (kl : J.B) (N : Nat) (A : Option Addr) (c : Nat) (hs : Sl w NoM (.slice A N c) (List.replicate N 0)) :
    Calls Try.prog 13 #[.pointer (some ⟨p, 0, none⟩), .string ⟨kl.toArray⟩, .slice A N c] w fun e w' => e = .returned (.int .i64 (J.errR kl N)) ∧ At w0 p (J.errS kl N) w' := by
  unfold J.errR J.errS
  by_cases h0 : kl = []
  · subst h0
    rw [if_pos (.inl rfl), if_pos (.inl rfl)]
    refine (at_put_empty h rfl A N c).mono ?_
    rintro e w' ⟨rfl, rfl⟩
    exact ⟨rfl, h⟩
  · by_cases h3 : 300 < kl.length
    · rw [if_pos (.inr h3), if_pos (.inr h3)]
      have h' := h
      obtain ⟨M, h1, _, _⟩ := h
      refine (put_long p M _ ⟨kl.toArray⟩ A N c w h1 rfl (enc_key kl h0) (by rw [enc_size]; exact h3)).mono ?_
      rintro e w' ⟨rfl, rfl⟩
      exact ⟨rfl, h'⟩
    · have hn : ¬ (kl = [] ∨ 300 < kl.length) := fun e => e.elim h0 h3
      rw [if_neg hn, if_neg hn]
      by_cases h8 : 8192 < N
      · rw [if_pos h8, if_pos h8]
        have h' := h
        obtain ⟨M, h1, _, _⟩ := h
        refine (put_val p M _ ⟨kl.toArray⟩ A N c w h1 rfl (enc_key kl h0) (by rw [enc_size]; omega) h8).mono ?_
        rintro e w' ⟨rfl, rfl⟩
        exact ⟨rfl, h'⟩
      · rw [if_neg h8, if_neg h8]
        exact at_put h rfl kl (List.replicate N 0) _ h0 (by omega) (by simp; omega) hs 0 (J.add_room (by show ¬ 4194304 - 13 < (J.errC kl N).len; simp only [J.Chg.len, J.errC, List.length_replicate, Bool.false_eq_true, if_false]; omega))
end Go.Proofs.Ythjjbaiijelhnaa
