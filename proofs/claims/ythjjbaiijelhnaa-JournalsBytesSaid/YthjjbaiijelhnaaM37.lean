import Derived.Test.YthjjbaiijelhnaaM31
import Derived.Test.YthjjbaiijelhnaaM35
set_option linter.unusedVariables false
set_option linter.unusedSimpArgs false
/- Law 30, JournalsBytes: the store behind the put, the removal, the commit, and compacting; a store with slices that are read. -/
namespace Go.Proofs.Ythjjbaiijelhnaa
open Go.RowKit Go.Lib Go.Maps Go.WideMaps Go.Sort
set_option maxRecDepth 100000
namespace J
def bytC (k v : B) : Chg := ⟨k, v, false⟩
def bytD (k : B) : Chg := ⟨k, [], true⟩
/-- The store ahead of the commit. -/
structure BytF (s : St) (C : List Chg) (m : List (B × B)) : Prop where
  opn : s.opn = true
  sp : s.spoilt = false
  chs : s.changes = C
  now : s.now = m
  was : s.was = []
  com : s.commits = 0
  gen : s.gen = 0
  ar : s.area = 0
  side : s.side = 1
  disk : s.disk = img0
  base : s.base = img0
  wr : s.writes = []
  lg : s.logged = 0
theorem byt_put (k v : B) (hk : k.length ≤ 300) (hv : v.length ≤ 200) : add (begin_ new) ⟨k, v, false⟩ = (addc (begin_ new) (bytC k v), 0) :=
  add_room (by show ¬ 4194304 - 13 < (bytC k v).len; simp only [Chg.len, bytC, Bool.false_eq_true, if_false]; omega)
theorem bytF1 (k v : B) : BytF (addc (begin_ new) (bytC k v)) [bytC k v] [(k, v)] := ⟨rfl, rfl, rfl, rfl, rfl, rfl, rfl, rfl, rfl, rfl, rfl, rfl, rfl⟩
theorem byt_del (k v : B) (hk : k.length ≤ 300) (hv : v.length ≤ 200) : delete (addc (begin_ new) (bytC k v)) k = (addc (addc (begin_ new) (bytC k v)) (bytD k), 0) := by
  have h1 : (addc (begin_ new) (bytC k v)).opn = true := rfl
  have h2 : look (addc (begin_ new) (bytC k v)).now k ≠ none := by
    rw [(bytF1 k v).now]; simp [look]
  unfold delete
  rw [if_neg (by rw [h1]; simp), if_neg h2]
  refine add_room ?_
  have e : (addc (begin_ new) (bytC k v)).size = 13 + (bytC k v).len := rfl
  rw [e]
  simp only [Chg.len, bytC, Bool.false_eq_true, if_false, if_true]
  omega
theorem bytF2 (k v : B) : BytF (addc (addc (begin_ new) (bytC k v)) (bytD k)) [bytC k v, bytD k] [] := by
  refine ⟨rfl, rfl, rfl, ?_, rfl, rfl, rfl, rfl, rfl, rfl, rfl, rfl, rfl⟩
  show del [(k, v)] k = []
  simp [del]
/-- The store behind the commit. -/
structure BytG (s : St) (R : B) (m : List (B × B)) : Prop where
  opn : s.opn = false
  now : s.now = m
  com : s.commits = 1
  gen : s.gen = 0
  ar : s.area = 0
  side : s.side = 1
  disk : s.disk = ⟨[], [], R, []⟩
  wr : s.writes.length = 1
  lg : s.logged = R.length
theorem byt_csmall {s : St} {C : List Chg} {m : List (B × B)} (h : BytF s C m) : CSmall s s.was := by
  rw [h.was]
  exact ⟨by decide, by rw [h.com]; decide, fun p hp => by cases hp⟩
theorem byt_fit {s : St} {C : List Chg} {m : List (B × B)} (h : BytF s C m) (hl : (record 0 1 C).length ≤ 9000) : (s.disk.area s.area).length + (record 0 (s.commits + 1) s.changes).length ≤ 4194304 := by
  rw [h.disk, h.ar, h.com, h.chs]
  show 0 + (record 0 1 C).length ≤ _
  omega
theorem byt_commit {s : St} {C : List Chg} {m : List (B × B)} (h : BytF s C m) (hl : (record 0 1 C).length ≤ 9000) : commit s = (committed s, 1, 0) := by
  have hf := byt_fit h hl
  unfold commit
  rw [if_neg (by rw [h.opn]; simp), if_neg (by rw [h.sp]; simp), if_pos (show fits s _ = true from decide_eq_true hf)]
  unfold commitEnd
  rw [show fits s (record 0 (s.commits + 1) s.changes) = true from decide_eq_true hf, show decide ((record 0 (s.commits + 1) s.changes).length ≤ 16777216 - s.logged) = true from decide_eq_true (by rw [h.com, h.lg, h.chs]; show (record 0 1 C).length ≤ _; omega)]
  rw [h.com]; rfl
theorem bytG {s : St} {C : List Chg} {m : List (B × B)} (h : BytF s C m) : BytG (committed s) (record 0 1 C) m := by
  have e2 : (committed s).disk = s.disk.setArea s.area (s.disk.area s.area ++ (record 0 (s.commits + 1) s.changes).take (record 0 (s.commits + 1) s.changes).length) := rfl
  refine ⟨rfl, h.now, by show s.commits + 1 = 1; rw [h.com], h.gen, h.ar, h.side, ?_, ?_, ?_⟩
  · rw [e2, h.disk, h.ar, h.com, h.chs, List.take_length]; rfl
  · show (s.writes ++ [_]).length = 1
    rw [h.wr]; rfl
  · show s.logged + (record 0 (s.commits + 1) s.changes).length = _
    rw [h.lg, h.com, h.chs, Nat.zero_add]
theorem bytG_csmall {s : St} {R : B} {m : List (B × B)} (h : BytG s R m) (hm : (encs (values m)).length ≤ 9000) (hk : ∀ p ∈ m, p.1.length ≤ 300) : CSmall s s.now := by
  rw [h.now]
  exact ⟨by omega, by rw [h.com]; decide, fun p hp => by have := hk p hp; unfold maxLen; omega⟩
theorem byt_compact {s : St} {R : B} {m : List (B × B)} (h : BytG s R m) (hR : R.length ≤ 9000) (hm : (encs (values m)).length ≤ 9000) : compact s s.now = (compacted s s.now, 0) := by
  have hrl := record_len 1 s.commits (values s.now)
  have : compactOk s s.now = true := by
    rw [h.now] at hrl ⊢
    refine decide_eq_true ⟨by omega, by rw [h.gen]; decide, by rw [h.lg]; omega⟩
  unfold compact
  rw [this]; rfl
theorem byt_disk {s : St} {R : B} {m : List (B × B)} (h : BytG s R m) : (compacted s s.now).disk = ⟨part 1 1 ++ part 1 1, [], R, record 1 1 (values m)⟩ ∧ (compacted s s.now).writes.length = 4 := by
  refine ⟨?_, ?_⟩
  · rw [comp_disk_eq, h.disk, h.ar, h.side, h.gen, h.com, h.now, List.take_length, List.take_length]
    show (⟨part 1 1 ++ part 1 1 ++ ([] : B).drop _, [], R, [] ++ record 1 1 (values m)⟩ : Img) = _
    rw [List.drop_nil, List.append_nil]; rfl
  · show (((s.writes ++ [_]) ++ [_]) ++ [_]).length = 4
    simp [h.wr]
theorem byt_enc1 (k v : B) (hv : v.length ≤ 200) : encs [bytC k v] = ([1] ++ leB k.length 2) ++ k ++ [UInt8.ofNat v.length, 0, 0, 0] ++ v := by
  have e : leB v.length 4 = [UInt8.ofNat v.length, 0, 0, 0] := by
    have h1 : v.length / 256 = 0 := by omega
    simp [leB, h1]
  show (1 :: leB k.length 2 ++ k ++ leB v.length 4 ++ v) ++ [] = _
  rw [e]; simp
theorem byt_enc2 (k v : B) : encs [bytC k v, bytD k] = encs [bytC k v] ++ ([0] ++ leB k.length 2) ++ k := by
  show (1 :: leB k.length 2 ++ k ++ leB v.length 4 ++ v) ++ ((0 :: leB k.length 2 ++ k) ++ []) = ((1 :: leB k.length 2 ++ k ++ leB v.length 4 ++ v) ++ []) ++ ([0] ++ leB k.length 2) ++ k
  simp
theorem leB2 (n : Nat) (h : n < 65536) : leB n 2 = [UInt8.ofNat (n % 256), UInt8.ofNat (n / 256)] := by
  have e4 : UInt8.ofNat n = UInt8.ofNat (n % 256) := by apply UInt8.toNat_inj.1; simp
  simp only [leB]; rw [e4]
end J
/-- A store of the law's own, and slices that are read. -/
def AtL (w0 : World) (p : Nat) (s : J.St) (L : List (Value × J.B)) (w : World) : Prop := ∃ M, StoreR w p M s ∧ (∀ k, M k → w0.heap.size ≤ k ∧ k < w.heap.size) ∧ Below w0.heap.size w0 w ∧ ∀ x ∈ L, Sl w M x.1 x.2
section
variable {w0 w w' : World} {p : Nat} {s s' : J.St} {L : List (Value × J.B)}
theorem At.l (h : At w0 p s w) : AtL w0 p s [] w := h.elim fun M h => ⟨M, h.1, h.2.1, h.2.2, fun x hx => by cases hx⟩
theorem AtL.at (h : AtL w0 p s L w) : At w0 p s w := h.elim fun M h => ⟨M, h.1, h.2.1, h.2.2.1⟩
theorem AtL.sl (h : AtL w0 p s L w) {v : Value} {l : J.B} (hx : (v, l) ∈ L) : Sl w NoM v l := h.elim fun _ h => (h.2.2.2 (v, l) hx).weak (fun _ h => h.elim)
theorem AtL.below (h : AtL w0 p s L w) (hb : Below w.heap.size w w') : AtL w0 p s L w' := by
  obtain ⟨M, h1, h2, h3, h4⟩ := h
  exact ⟨M, h1.below hb, fun k hk => ⟨(h2 k hk).1, Nat.lt_of_lt_of_le (h2 k hk).2 hb.size⟩, h3.trans (hb.mono h3.size), fun x hx => (h4 x hx).step (Step.of_below hb)⟩
theorem AtL.add (h : AtL w0 p s L w) (hb : Below w.heap.size w w') {v : Value} {l : J.B} (hv : Sl w' (· < w.heap.size) v l) : AtL w0 p s ((v, l) :: L) w' := by
  obtain ⟨M, h1, h2, h3, h4⟩ := h
  refine ⟨M, h1.below hb, fun k hk => ⟨(h2 k hk).1, Nat.lt_of_lt_of_le (h2 k hk).2 hb.size⟩, h3.trans (hb.mono h3.size), fun x hx => ?_⟩
  rcases List.mem_cons.1 hx with rfl | hx
  · exact hv.weak (fun k hk => (h2 k hk).2)
  · exact (h4 x hx).step (Step.of_below hb)
theorem AtL.sub (h : AtL w0 p s L w) {L' : List (Value × J.B)} (hL : ∀ x ∈ L', x ∈ L) : AtL w0 p s L' w := by
  obtain ⟨M, h1, h2, h3, h4⟩ := h
  exact ⟨M, h1, h2, h3, fun x hx => h4 x (hL x hx)⟩
theorem AtL.step {M M' : Nat → Prop} (h1 : ∀ k, M k → w0.heap.size ≤ k ∧ k < w.heap.size) (h2 : Below w0.heap.size w0 w) (h3 : ∀ x ∈ L, Sl w M x.1 x.2) (hst : StoreR w' p M' s') (hs : Step M M' w w') : AtL w0 p s' L w' := by
  refine ⟨fun k => M' k ∧ k < w'.heap.size, hst.cap, fun k hk => ⟨?_, hk.2⟩, below_tr h2 (hs.below h2.size (fun k hk => (h1 k hk).1)), fun x hx => ((h3 x hx).step hs).weak (fun k h => h.1)⟩
  by_cases hw : k < w.heap.size
  · exact (h1 k (hs.sub k hw hk.1)).1
  · have := h2.size; omega
theorem atl_delete (h : AtL w0 p s L w) (k : J.B) (hk : k.length ≤ 1000) (r : Int) (hr : J.delete s k = (s', r)) :
    Calls Try.prog 14 #[.pointer (some ⟨p, 0, none⟩), .string ⟨k.toArray⟩] w fun e w' => e = .returned (.int .i64 r) ∧ AtL w0 p s' L w' := by
  obtain ⟨M, h1, h2, h3, h4⟩ := h
  have hp := delete_any p M s ⟨k.toArray⟩ w h1 (by rw [enc_size]; exact hk)
  rw [show (⟨k.toArray⟩ : ByteArray).data.toList = k from rfl, hr] at hp
  refine hp.mono ?_
  rintro e w' ⟨rfl, M', hst, hs⟩
  exact ⟨rfl, AtL.step h2 h3 h4 hst hs⟩
theorem atl_commit (h : AtL w0 p s L w) (ho : s.opn = true) (hsp : s.spoilt = false) (hs : CSmall s s.was) (hcm : s.commits + 1 < 4294967296) (har : s.area ≤ 1) (hfit : (s.disk.area s.area).length + (J.record 0 (s.commits + 1) s.changes).length ≤ 4194304) (n r : Int) (hr : J.commit s = (s', n, r)) :
    Calls Try.prog 15 #[.pointer (some ⟨p, 0, none⟩)] w fun e w' => e = .returned (.tuple #[.int .i64 n, .int .i64 r]) ∧ AtL w0 p s' L w' := by
  obtain ⟨M, h1, h2, h3, h4⟩ := h
  have hp := commit_anyfit p M s w h1 ho hsp hs hcm har hfit
  rw [hr] at hp
  refine hp.mono ?_
  rintro e w' ⟨rfl, M', hst, hs⟩
  exact ⟨rfl, AtL.step h2 h3 h4 hst hs⟩
theorem atl_compact (h : AtL w0 p s L w) (ho : s.opn = false) (hs : CSmall s s.now) (r : Int) (hr : J.compact s s.now = (s', r)) :
    Calls Try.prog 18 #[.pointer (some ⟨p, 0, none⟩)] w fun e w' => e = .returned (.int .i64 r) ∧ AtL w0 p s' L w' := by
  obtain ⟨M, h1, h2, h3, h4⟩ := h
  have hp := compactS_any p M s w h1 ho hs
  rw [hr] at hp
  refine hp.mono ?_
  rintro e w' ⟨rfl, M', hst, hs⟩
  exact ⟨rfl, AtL.step h2 h3 h4 hst hs⟩
/-- Image: its four slices are read from then on. -/
theorem atl_image (h : AtL w0 p s L w) : Calls Try.prog 17 #[.pointer (some ⟨p, 0, none⟩)] w fun e w' => ∃ A0 A1 A2 A3 n0 n1 n2 n3 c0 c1 c2 c3, e = .returned (imgW (.slice A0 n0 c0) (.slice A1 n1 c1) (.slice A2 n2 c2) (.slice A3 n3 c3)) ∧ n0 = s.disk.h0.length ∧ n1 = s.disk.h1.length ∧ n2 = s.disk.a0.length ∧ n3 = s.disk.a1.length ∧
      AtL w0 p s ((.slice A0 n0 c0, s.disk.h0) :: (.slice A1 n1 c1, s.disk.h1) :: (.slice A2 n2 c2, s.disk.a0) :: (.slice A3 n3 c3, s.disk.a1) :: L) w' ∧ Below w.heap.size w w' := by
  have h' := h
  obtain ⟨M, h1, h2, h3, h4⟩ := h
  refine (image_any p M s w h1).mono ?_
  rintro e w' ⟨v, rfl, hi, hb⟩
  obtain ⟨y0, y1, y2, y3, rfl, q0, q1, q2, q3⟩ := hi
  obtain ⟨A0, rfl⟩ := q0.slice_
  obtain ⟨A1, rfl⟩ := q1.slice_
  obtain ⟨A2, rfl⟩ := q2.slice_
  obtain ⟨A3, rfl⟩ := q3.slice_
  refine ⟨A0, A1, A2, A3, _, _, _, _, _, _, _, _, rfl, rfl, rfl, rfl, rfl, ?_, hb⟩
  obtain ⟨M, h1, h2, h3, h4⟩ := h'
  refine ⟨M, h1.below hb, fun k hk => ⟨(h2 k hk).1, Nat.lt_of_lt_of_le (h2 k hk).2 hb.size⟩, h3.trans (hb.mono h3.size), fun x hx => ?_⟩
  simp only [List.mem_cons] at hx
  rcases hx with rfl | rfl | rfl | rfl | hx
  · exact q0.sl.weak (fun k hk => (h2 k hk).2)
  · exact q1.sl.weak (fun k hk => (h2 k hk).2)
  · exact q2.sl.weak (fun k hk => (h2 k hk).2)
  · exact q3.sl.weak (fun k hk => (h2 k hk).2)
  · exact (h4 x hx).step (Step.of_below hb)
end
end Go.Proofs.Ythjjbaiijelhnaa
