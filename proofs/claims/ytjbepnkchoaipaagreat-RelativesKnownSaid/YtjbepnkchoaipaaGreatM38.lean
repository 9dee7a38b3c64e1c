import Derived.Test.YtjbepnkchoaipaaGreatM36
import Derived.Test.YtjbepnkchoaipaaGreatM30
import Derived.Test.YtjbepnkchoaipaaGreatM35
set_option linter.unusedVariables false
set_option linter.unusedSimpArgs false
/- Law 31: what the operations of a file do, said in the law's model. -/
namespace Go.Proofs.YtjbepnkchoaipaaGreat
open Go.RowKit Go.Lib Go.Maps Go.WideMaps Go.Sort
set_option maxRecDepth 100000
/-- Bytes that lie where the store is not. -/
def Src (w0 : World) (p : Nat) (fs : List (Nat × Obj)) (v : Value) (l : J.B) : Prop := ∀ gs t w1, (∀ x ∈ fs, x ∈ gs) → At w0 p gs t w1 → Sl w1 NoM v l
/-- A file of the model, in its store. -/
def K (w0 : World) (p pf : Nat) (nm : J.B) (u : Nat) (fs : List (Nat × Obj)) (m : R.M) (L : List (List (J.B × J.B))) (w : World) : Prop :=
  ∃ s, At w0 p ((pf, fileO p nm m.rel m.size m.mode m.next m.last) :: fs) s w ∧ R.Kp nm u m L s ∧ (∀ x ∈ fs, x.1 ≠ pf) ∧ nm.length ≤ 3
/-- What an operation leaves. -/
def KR (w0 : World) (p pf : Nat) (nm : J.B) (u : Nat) (fs : List (Nat × Obj)) (m' : R.M) (L : List (List (J.B × J.B))) (w' : World) : Prop := ∃ L', R.Ext nm L L' m' ∧ K w0 p pf nm (u + 1) fs m' L' w'
section
variable {w0 : World} {p pf : Nat} {nm : J.B} {u : Nat} {fs : List (Nat × Obj)} {m m' : R.M} {L : List (List (J.B × J.B))} {w w' : World} {s s1 : J.St}
theorem tx_commit_any {now : List (J.B × J.B)} (h : R.Tx u s s1 now) : ∀ gs w1, At w0 p gs s1 w1 → ∃ k : Int, Calls Tryz.prog 70 #[.pointer (some ⟨p, 0, none⟩)] w1 fun e w' => e = .returned (.tuple #[.int .i64 k, .int .i64 0]) ∧ At w0 p gs (J.committed s1) w' :=
  fun _ _ h1 => ⟨_, at_commit h1 h.opn h.sp h.cs h.cm h.ar h.fit _ _ h.com⟩
theorem K.same (hA : At w0 p ((pf, fileO p nm m'.rel m'.size m'.mode m'.next m'.last) :: fs) s w') (hk : R.Kp nm u m L s) (hf : ∀ x ∈ fs, x.1 ≠ pf) (hnm : nm.length ≤ 3) (hm : R.MOk (u + 1) m') (he : m'.map nm = m.map nm) : KR w0 p pf nm u fs m' L w' :=
  ⟨L, .inl rfl, s, hA, hk.same hm he, hf, hnm⟩
theorem K.tx (hA : At w0 p ((pf, fileO p nm m'.rel m'.size m'.mode m'.next m'.last) :: fs) (J.committed s1) w') (hk : R.Kp nm u m L s) (hf : ∀ x ∈ fs, x.1 ≠ pf) (hnm : nm.length ≤ 3) (hm : R.MOk (u + 1) m') (ht : R.Tx u s s1 (m'.map nm)) : KR w0 p pf nm u fs m' L w' :=
  ⟨_, .inr rfl, _, hA, hk.tx hm ht, hf, hnm⟩
theorem K.below (h : K w0 p pf nm u fs m L w) (hb : Below w.heap.size w w') : K w0 p pf nm u fs m L w' := by
  obtain ⟨s, h1, h2⟩ := h
  exact ⟨s, h1.below hb, h2⟩
theorem K.row (h : K w0 p pf nm u fs m L w) : w.heap[pf]? = some (fileO p nm m.rel m.size m.mode m.next m.last) := by
  obtain ⟨s, h1, _⟩ := h
  exact h1.get List.mem_cons_self
theorem kp_look (hk : R.Kp nm u m L s) {n : Nat} (hn : n < 4294967296) : J.look s.now (R.key nm n) = R.look m.rows n := by
  rw [hk.sto.now]; exact R.map_look hk.mok hn
theorem Src.slice {v : Value} {l : J.B} {gs : List (Nat × Obj)} (h : Src w0 p fs v l) (ha : At w0 p gs s w) (hg : ∀ x ∈ fs, x ∈ gs) : ∃ A c, v = .slice A l.length c := by
  obtain ⟨A, c, e, _⟩ := (h _ _ _ hg ha).by
  exact ⟨A, c, e⟩
theorem k_close (h : K w0 p pf nm u fs m L w) :
    Calls Tryz.prog 11 #[.pointer (some ⟨pf, 0, none⟩)] w fun e w' => e = .returned (.string ⟨m.close.2.toArray⟩) ∧ KR w0 p pf nm u fs m.close.1 L w' := by
  obtain ⟨s, ha, hk, hf, hnm⟩ := h
  have hm := R.ok_close hk.mok
  have h0 := ha.get List.mem_cons_self
  revert hm
  unfold R.M.close
  by_cases h1 : m.mode = 0
  · rw [if_pos h1]
    intro hm
    have h0' := h0
    rw [h1] at h0'
    refine (close_shut h0').mono ?_
    rintro e w1 ⟨rfl, rfl⟩
    exact ⟨rfl, K.same ha hk hf hnm hm rfl⟩
  · rw [if_neg h1]
    intro hm
    refine (close_open h0 (by omega)).mono ?_
    rintro e w1 ⟨rfl, hg, hr⟩
    exact ⟨rfl, K.same (m' := { m with mode := 0 }) (file_at ha hf hk.sto.two hg hr) hk hf hnm hm rfl⟩
theorem k_write (h : K w0 p pf nm u fs m L w) (hu : u ≤ 340) (k : Int) (v : Value) (b : J.B) (hv : Src w0 p fs v b) :
    Calls Tryz.prog 23 #[.pointer (some ⟨pf, 0, none⟩), .int .i64 k, v] w fun e w' => e = .returned (.string ⟨(m.write k b).2.toArray⟩) ∧ KR w0 p pf nm u fs (m.write k b).1 L w' := by
  obtain ⟨s, ha, hk, hf, hnm⟩ := h
  have hm := R.ok_write hk.mok k b
  have h0 := ha.get List.mem_cons_self
  obtain ⟨A, c, rfl⟩ := hv.slice ha (fun x hx => List.mem_cons_of_mem _ hx)
  revert hm
  unfold R.M.write
  by_cases hs : chk [52, 56] true 2 3 m.rel m.mode = R.good
  · rw [if_neg (Decidable.not_not.2 hs)]
    by_cases hb : 0 < b.length ∧ b.length ≤ m.size
    · rw [if_neg (Decidable.not_not.2 hb)]
      by_cases hr : k < 1 ∨ 65536 < k
      · rw [if_pos hr]
        intro hm
        refine (write_full ha hf hk.sto.two k A _ c hb hr hs).mono ?_
        rintro e w1 ⟨rfl, h1⟩
        exact ⟨rfl, K.same (m' := { m with last := 0 }) h1 hk hf hnm hm rfl⟩
      · rw [if_neg hr]
        obtain ⟨n, rfl⟩ : ∃ n : Nat, k = n := ⟨k.toNat, by omega⟩
        rw [Int.toNat_natCast]
        have h1 : 1 ≤ n := by omega
        have h2 : n ≤ 65536 := by omega
        cases hl : R.look m.rows n with
        | some b0 =>
          intro hm
          have hlk : J.look s.now (R.key nm n) = some b0 := by rw [kp_look hk (by omega), hl]
          refine (write_there ha hf hk.sto.two n A _ c hb h1 h2 (by omega) b0 hlk (by have := hk.sto.len hlk; omega) hs).mono ?_
          rintro e w1 ⟨rfl, h1⟩
          exact ⟨rfl, K.same (m' := { m with last := 0 }) h1 hk hf hnm hm rfl⟩
        | none =>
          intro hm
          have hlk : J.look s.now (R.key nm n) = none := by rw [kp_look hk (by omega), hl]
          have ht := R.there_of_mode hk.mok (Decidable.not_not.2 hs) (by decide)
          obtain ⟨s1, hr, hx⟩ := hk.put hu hnm ht h1 h2 hb
          have hsz := hk.mok.size
          refine (write_ok ha hf hk.sto.two hk.sto.opn n A _ c b hb h1 h2 (by omega) hlk hv (by omega) hr (tx_commit_any hx) hs).mono ?_
          rintro e w1 ⟨rfl, h1⟩
          exact ⟨rfl, K.tx (m' := { m with last := 0, rows := R.put m.rows n b }) h1 hk hf hnm hm hx⟩
    · rw [if_pos hb]
      intro hm
      refine (write_long ha hf hk.sto.two k A _ c hb hs).mono ?_
      rintro e w1 ⟨rfl, h1⟩
      exact ⟨rfl, K.same (m' := { m with last := 0 }) h1 hk hf hnm hm rfl⟩
  · rw [if_pos hs]
    intro hm
    refine (write_shut h0 k A _ c hs).mono ?_
    rintro e w1 ⟨rfl, rfl⟩
    exact ⟨rfl, K.same ha hk hf hnm hm rfl⟩
theorem look_far (h : R.MOk u m) {n : Nat} (hn : n < 1 ∨ 65536 < n) : R.look m.rows n = none := R.look_none_of (fun r hr e => by have := h.rows.pos r hr; omega)
theorem k_read (h : K w0 p pf nm u fs m L w) (k : Int) (hkk : -1000000 ≤ k ∧ k ≤ 1000000) :
    Calls Tryz.prog 26 #[.pointer (some ⟨pf, 0, none⟩), .int .i64 k] w fun e w' => ∃ v, e = .returned (.tuple #[v, .string ⟨(m.readR k).2.2.toArray⟩]) ∧ Slc w' (· < w.heap.size) v ((m.readR k).2.1.getD []) ∧ KR w0 p pf nm u fs (m.readR k).1 L w' := by
  obtain ⟨s, ha, hk, hf, hnm⟩ := h
  have hm := R.ok_read hk.mok k
  have h0 := ha.get List.mem_cons_self
  revert hm
  unfold R.M.readR
  by_cases hs : chk [52, 55] true 1 3 m.rel m.mode = R.good
  · rw [if_neg (Decidable.not_not.2 hs)]
    cases hl : R.lookI m.rows k with
    | some b =>
      intro hm
      obtain ⟨hk1, hk2⟩ := R.lookI_some hl
      obtain ⟨n, rfl⟩ : ∃ n : Nat, k = n := ⟨k.toNat, by omega⟩
      rw [Int.toNat_natCast] at hk2 hm ⊢
      have hlk : J.look s.now (R.key nm n) = some b := by rw [kp_look hk (by omega), hk2]
      refine (read_some ha hf hk.sto.two n (by omega) (by omega) (by omega) b hlk (by have := hk.sto.len hlk; omega) hs).mono ?_
      rintro e w1 ⟨v, rfl, h1, h2⟩
      exact ⟨v, rfl, h1, K.same (m' := { m with next := n + 1, last := n }) h2 hk hf hnm hm rfl⟩
    | none =>
      intro hm
      have hlk : J.look s.now (R.key nm (num32 k)) = none := by
        rw [kp_look hk (num32_lt k)]
        unfold R.lookI at hl
        split at hl
        · rename_i h
          obtain ⟨n, rfl⟩ : ∃ n : Nat, k = n := ⟨k.toNat, by omega⟩
          rw [Int.toNat_natCast] at hl
          rw [num32_nat (by omega)]; exact hl
        · rename_i h
          exact look_far hk.mok (by unfold num32; omega)
      refine (read_none ha hf hk.sto.two k (by omega) hlk hs).mono ?_
      rintro e w1 ⟨rfl, h1⟩
      exact ⟨_, rfl, Slc.nil_, K.same (m' := { m with next := 0, last := 0 }) h1 hk hf hnm hm rfl⟩
  · rw [if_pos hs]
    intro hm
    refine (read_shut h0 k hs).mono ?_
    rintro e w1 ⟨rfl, rfl⟩
    exact ⟨_, rfl, Slc.nil_, K.same ha hk hf hnm hm rfl⟩
theorem num_cases (h : R.MOk u m) (k : Int) (hn : m.num k ≠ 0) : (∃ n : Nat, 1 ≤ n ∧ n ≤ 65536 ∧ m.num k = n ∧ (k = n ∨ k = 0 ∧ m.last = n) ∧ R.lookI m.rows (m.num k) = R.look m.rows n) ∨ ((k < 0 ∨ 65536 < k) ∧ R.lookI m.rows (m.num k) = none) := by
  have hl := h.last_le
  unfold R.M.num at hn ⊢
  by_cases h0 : k = 0
  · rw [if_pos h0] at hn ⊢
    refine .inl ⟨m.last, by omega, hl, rfl, .inr ⟨h0, rfl⟩, ?_⟩
    unfold R.lookI
    rw [if_pos (by omega), Int.toNat_natCast]
  · rw [if_neg h0] at hn ⊢
    by_cases hr : 1 ≤ k ∧ k ≤ 65536
    · obtain ⟨n, rfl⟩ : ∃ n : Nat, k = n := ⟨k.toNat, by omega⟩
      refine .inl ⟨n, by omega, by omega, rfl, .inl rfl, ?_⟩
      unfold R.lookI
      rw [if_pos hr, Int.toNat_natCast]
    · refine .inr ⟨by omega, ?_⟩
      unfold R.lookI
      rw [if_neg hr]
theorem num_zero {k : Int} (h : m.num k = 0) : k = 0 ∧ m.last = 0 := by
  unfold R.M.num at h
  by_cases h0 : k = 0
  · rw [if_pos h0] at h
    exact ⟨h0, by omega⟩
  · rw [if_neg h0] at h
    exact absurd h h0
theorem k_delete (h : K w0 p pf nm u fs m L w) (hu : u ≤ 340) (k : Int) :
    Calls Tryz.prog 28 #[.pointer (some ⟨pf, 0, none⟩), .int .i64 k] w fun e w' => e = .returned (.string ⟨(m.delete k).2.toArray⟩) ∧ KR w0 p pf nm u fs (m.delete k).1 L w' := by
  obtain ⟨s, ha, hk, hf, hnm⟩ := h
  have hm := R.ok_delete hk.mok k
  revert hm
  unfold R.M.delete
  by_cases hs : chk [52, 57] true 3 3 m.rel m.mode = R.good
  · rw [if_neg (Decidable.not_not.2 hs)]
    by_cases h0 : m.num k = 0
    · rw [if_pos h0]
      intro hm
      obtain ⟨rfl, hl0⟩ := num_zero h0
      refine (delete_bad ha hf hk.sto.two 0 [52, 51] (by decide) (fun gs w1 h1 hg => by rw [hl0] at h1; exact old_zero h1 hg hk.sto.two _) hs).mono ?_
      rintro e w1 ⟨rfl, h1⟩
      exact ⟨rfl, K.same (m' := { m with last := 0 }) h1 hk hf hnm hm rfl⟩
    · rw [if_neg h0]
      rcases num_cases hk.mok k h0 with ⟨n, h1, h2, hnk, hkn, hlk⟩ | ⟨hko, hlk⟩
      · rw [hlk, hnk, Int.toNat_natCast]
        cases hl : R.look m.rows n with
        | none =>
          intro hm
          have hlj : J.look s.now (R.key nm n) = none := by rw [kp_look hk (by omega), hl]
          refine (delete_bad ha hf hk.sto.two k [50, 51] (by decide) (fun gs w1 h1 hg => by
            have := old_in h1 hg hk.sto.two k n (by omega) h2 hkn (by omega) (fun l e => by rw [hlj] at e; cases e) 64 #[] (fun v w => enters_of Tryz.func64 (by kernel_rfl) rfl _ w) true (fun v w1 _ _ => delete1_any v w1)
            rw [hlj] at this
            exact this) hs).mono ?_
          rintro e w1 ⟨rfl, h1⟩
          exact ⟨rfl, K.same (m' := { m with last := 0 }) h1 hk hf hnm hm rfl⟩
        | some b =>
          intro hm
          have hlj : J.look s.now (R.key nm n) = some b := by rw [kp_look hk (by omega), hl]
          obtain ⟨s1, hr, hx⟩ := hk.del hu hnm h2 hl
          refine (delete_ok ha hf hk.sto.two hk.sto.opn k n h1 h2 hkn (by omega) b hlj (by have := hk.sto.len hlj; omega) hr (tx_commit_any hx) hs).mono ?_
          rintro e w1 ⟨rfl, h1⟩
          exact ⟨rfl, K.tx (m' := { m with last := 0, rows := R.del m.rows n }) h1 hk hf hnm hm hx⟩
      · rw [hlk]
        intro hm
        refine (delete_bad ha hf hk.sto.two k [50, 51] (by decide) (fun gs w1 h1 hg => old_out h1 hg hk.sto.two k hko 64 #[] (fun v w => enters_of Tryz.func64 (by kernel_rfl) rfl _ w) true (fun w1 _ => delete1_any _ w1)) hs).mono ?_
        rintro e w1 ⟨rfl, h1⟩
        exact ⟨rfl, K.same (m' := { m with last := 0 }) h1 hk hf hnm hm rfl⟩
  · rw [if_pos hs]
    intro hm
    refine (delete_shut ha hf k hs).mono ?_
    rintro e w1 ⟨rfl, h1⟩
    exact ⟨rfl, K.same h1 hk hf hnm hm rfl⟩
/-- What Rewrite's closure answers. -/
theorem rewrite1_at {nxt last : Nat} {rel : Bool} {size mode : Nat} {gs : List (Nat × Obj)} {A : Option Addr} {l c : Nat} {Bf Bb : Nat} {v : Value} {lo : J.B} {w1 : World} (ha : At w0 p ((pf, fileO p nm rel size mode nxt last) :: (Bb, boxB (.slice A l c)) :: (Bf, boxF pf) :: gs) s w1) (hsl : Sl w1 NoM v lo) :
    Calls Tryz.prog 47 (#[v] ++ #[.pointer (some ⟨Bf, 0, none⟩), .pointer (some ⟨Bb, 0, none⟩)]) w1 fun e w' => e = .returned (.bool (decide (0 < l ∧ l ≤ size) && (rel || decide (lo.length = l)))) ∧ w1 = w' := by
  obtain ⟨Av, cv, rfl, _⟩ := hsl.by
  exact rewrite1_any (ha.get List.mem_cons_self) Bf Bb A Av l c _ cv (by rw [cell_of_row w1 _ 0 _ _ _ (ha.get (List.mem_cons_of_mem _ (List.mem_cons_of_mem _ List.mem_cons_self)))]; rfl) (by rw [cell_of_row w1 _ 0 _ _ _ (ha.get (List.mem_cons_of_mem _ List.mem_cons_self))]; rfl)
theorem k_rewrite (h : K w0 p pf nm u fs m L w) (hu : u ≤ 340) (k : Int) (v : Value) (b : J.B) (hv : Src w0 p fs v b) :
    Calls Tryz.prog 14 #[.pointer (some ⟨pf, 0, none⟩), .int .i64 k, v] w fun e w' => e = .returned (.string ⟨(m.rewrite k b).2.toArray⟩) ∧ KR w0 p pf nm u fs (m.rewrite k b).1 L w' := by
  obtain ⟨s, ha, hk, hf, hnm⟩ := h
  have hm := R.ok_rewrite hk.mok k b
  obtain ⟨A, c, rfl⟩ := hv.slice ha (fun x hx => List.mem_cons_of_mem _ hx)
  revert hm
  unfold R.M.rewrite
  by_cases hs : chk [52, 57] (decide (k ≠ 0)) 3 3 m.rel m.mode = R.good
  · rw [if_neg (Decidable.not_not.2 hs)]
    by_cases h0 : m.num k = 0
    · rw [if_pos h0]
      intro hm
      obtain ⟨rfl, hl0⟩ := num_zero h0
      refine (rewrite_bad ha hf 0 A _ c [52, 51] (by decide) (fun Bf Bb gs w1 h1 hg => by rw [hl0] at h1; exact old_zero h1 hg hk.sto.two _) hs).mono ?_
      rintro e w1 ⟨rfl, h1⟩
      exact ⟨rfl, K.same (m' := { m with last := 0 }) h1 hk hf hnm hm rfl⟩
    · rw [if_neg h0]
      rcases num_cases hk.mok k h0 with ⟨n, h1, h2, hnk, hkn, hlk⟩ | ⟨hko, hlk⟩
      · rw [hlk, hnk, Int.toNat_natCast]
        have hlj : J.look s.now (R.key nm n) = R.look m.rows n := kp_look hk (by omega)
        have hbad : ∀ r : Bool, (decide (0 < b.length ∧ b.length ≤ m.size) && (m.rel || decide (((R.look m.rows n).getD []).length = b.length))) = r → oldN r (R.look m.rows n).isSome n = 0 → oldS r (R.look m.rows n).isSome ≠ R.good →
            Calls Tryz.prog 14 #[.pointer (some ⟨pf, 0, none⟩), .int .i64 k, .slice A b.length c] w fun e w' => e = .returned (.string ⟨(oldS r (R.look m.rows n).isSome).toArray⟩) ∧ At w0 p ((pf, fileO p nm m.rel m.size m.mode m.next 0) :: fs) s w' := fun r hr hn0 hne =>
          rewrite_bad ha hf k A _ c _ hne (fun Bf Bb gs w1 h1 hg => by
            have := old_in h1 hg hk.sto.two k n (by omega) h2 hkn (by omega) (fun l e => by have := hk.sto.len e; omega) 47 #[.pointer (some ⟨Bf, 0, none⟩), .pointer (some ⟨Bb, 0, none⟩)] (fun v w => enters_of Tryz.func47 (by kernel_rfl) rfl _ w) r
              (fun v w2 ha2 hsl => by have := rewrite1_at ha2 hsl; rw [hlj, hr] at this; exact this)
            rw [hlj, hn0] at this
            exact this) hs
        by_cases hfit : (0 < b.length ∧ b.length ≤ m.size) ∧ (m.rel = true ∨ ((R.look m.rows n).getD []).length = b.length)
        · rw [if_neg (Decidable.not_not.2 hfit)]
          have hr1 : (decide (0 < b.length ∧ b.length ≤ m.size) && (m.rel || decide (((R.look m.rows n).getD []).length = b.length))) = true := by
            rw [decide_eq_true hfit.1]
            rcases hfit.2 with e | e
            · rw [e]; rfl
            · rw [decide_eq_true e]; simp
          cases hl : R.look m.rows n with
          | none =>
            intro hm
            have := hbad true hr1 (by rw [hl]; rfl) (by rw [hl]; decide)
            rw [hl] at this
            refine this.mono ?_
            rintro e w1 ⟨rfl, h1⟩
            exact ⟨rfl, K.same (m' := { m with last := 0 }) h1 hk hf hnm hm rfl⟩
          | some b0 =>
            intro hm
            have ht := R.there_of_mode hk.mok (Decidable.not_not.2 hs) (by decide)
            obtain ⟨s1, hr, hx⟩ := hk.put hu hnm ht h1 h2 hfit.1
            have hsz := hk.mok.size
            have hf2 := hfit.2
            rw [hl] at hf2 hlj
            refine (rewrite_ok ha hf hk.sto.two hk.sto.opn k n A _ c b h1 h2 hkn (by omega) b0 hlj (by have := hk.sto.len hlj; omega) hfit.1 hf2 hv (by have := hfit.1; omega) hr (tx_commit_any hx) hs).mono ?_
            rintro e w1 ⟨rfl, h1⟩
            exact ⟨rfl, K.tx (m' := { m with last := 0, rows := R.put m.rows n b }) h1 hk hf hnm hm hx⟩
        · rw [if_pos hfit]
          intro hm
          have hr1 : (decide (0 < b.length ∧ b.length ≤ m.size) && (m.rel || decide (((R.look m.rows n).getD []).length = b.length))) = false := by
            by_cases h3 : 0 < b.length ∧ b.length ≤ m.size
            · have h4 : ¬ (m.rel = true ∨ ((R.look m.rows n).getD []).length = b.length) := fun e => hfit ⟨h3, e⟩
              have h5 : m.rel = false := by cases h : m.rel with
                | true => exact absurd (.inl h) h4
                | false => rfl
              rw [h5, decide_eq_false (fun e => h4 (.inr e))]; simp
            · rw [decide_eq_false h3]; rfl
          refine (hbad false hr1 rfl (by cases (R.look m.rows n).isSome <;> decide)).mono ?_
          rintro e w1 ⟨rfl, h1⟩
          exact ⟨rfl, K.same (m' := { m with last := 0 }) h1 hk hf hnm hm rfl⟩
      · rw [hlk]
        have hk0 : k ≠ 0 := by omega
        have hrel : m.rel = true := by
          cases h : m.rel with
          | true => rfl
          | false => rw [h, decide_eq_true hk0] at hs; rw [chk_broken] at hs; cases hs
        have hbad : ∀ r : Bool, decide (0 < b.length ∧ b.length ≤ m.size) = r → Calls Tryz.prog 14 #[.pointer (some ⟨pf, 0, none⟩), .int .i64 k, .slice A b.length c] w fun e w' => e = .returned (.string ⟨(oldS r false).toArray⟩) ∧ At w0 p ((pf, fileO p nm m.rel m.size m.mode m.next 0) :: fs) s w' := fun r hr =>
          rewrite_bad ha hf k A _ c _ (by cases r <;> decide) (fun Bf Bb gs w1 h1 hg => old_out h1 hg hk.sto.two k hko 47 #[.pointer (some ⟨Bf, 0, none⟩), .pointer (some ⟨Bb, 0, none⟩)] (fun v w => enters_of Tryz.func47 (by kernel_rfl) rfl _ w) r
              (fun w2 ha2 => by have := rewrite1_at ha2 (Sl.nil_ : Sl w2 NoM _ []); rw [hr, hrel] at this; rw [hrel] at ha2; simpa using this)) hs
        by_cases h3 : 0 < b.length ∧ b.length ≤ m.size
        · rw [if_neg (fun h => h ⟨h3, .inl hrel⟩)]
          intro hm
          refine (hbad true (decide_eq_true h3)).mono ?_
          rintro e w1 ⟨rfl, h1⟩
          exact ⟨rfl, K.same (m' := { m with last := 0 }) h1 hk hf hnm hm rfl⟩
        · rw [if_pos (fun h => h3 h.1)]
          intro hm
          refine (hbad false (decide_eq_false h3)).mono ?_
          rintro e w1 ⟨rfl, h1⟩
          exact ⟨rfl, K.same (m' := { m with last := 0 }) h1 hk hf hnm hm rfl⟩
  · rw [if_pos hs]
    intro hm
    refine (rewrite_shut ha hf k A _ c hs).mono ?_
    rintro e w1 ⟨rfl, h1⟩
    exact ⟨rfl, K.same h1 hk hf hnm hm rfl⟩
end
end Go.Proofs.YtjbepnkchoaipaaGreat
/- Law 31: New. -/
namespace Go.Proofs.YtjbepnkchoaipaaGreat
open Go.RowKit Go.Lib Go.Maps Go.WideMaps Go.Sort
set_option maxRecDepth 100000
section
variable {w0 : World} {p : Nat} {w : World} {s : J.St} {fs : List (Nat × Obj)}
theorem new_file (h : At w0 p fs s w) (nm : J.B) (rel : Bool) (size : Nat) (h1 : nm ≠ []) (h2 : nm.length ≤ 100) (h0 : decide (0 ≤ Lib.indexByte nm 0) = false) (h3 : 1 ≤ size) (h4 : size ≤ 4096) :
    Calls Tryz.prog 9 #[.pointer (some ⟨p, 0, none⟩), .agg #[.string ⟨nm.toArray⟩, .bool rel, .int .i64 (size : Nat)]] w fun e w' => e = .returned (.tuple #[.pointer (some ⟨w.heap.size + 1, 0, none⟩), .int .i64 0]) ∧ At w0 p ((w.heap.size + 1, fileO p nm rel size 0 0 0) :: fs) s w' := by
  have hA := (h.more (.cells #[.string ⟨nm.toArray⟩, .bool rel, .int .i64 (size : Nat)] 32 (0, 0))).more (fileO p nm rel size 0 0 0)
  rw [World.size_alloc] at hA
  have HA := Lib.hid (hA.less (gs := (w.heap.size + 1, fileO p nm rel size 0 0 0) :: fs) (fun x hx => by
    rcases List.mem_cons.1 hx with rfl | hx
    · exact List.mem_cons_self
    · exact List.mem_cons_of_mem _ (List.mem_cons_of_mem _ hx)))
  have HC := Lib.hid (fun W => Tryz.strings_Contains_one ⟨nm.toArray⟩ 0 W)
  have e0 : (⟨nm.toArray⟩ : ByteArray).data.toList = nm := rfl
  rw [e0, h0] at HC
  have hne : ((⟨nm.toArray⟩ : ByteArray).toList == []) = false := bs_ne (y := []) h1
  have hsz : (⟨nm.toArray⟩ : ByteArray).size = nm.length := enc_size nm
  have hie : nm.isEmpty = false := by cases nm <;> first | (exact absurd rfl h1) | rfl
  have hl : ¬ (100 : Int) < (nm.length : Nat) := by omega
  have s1 : decide ((size : Int) < 1) = false := decide_eq_false (by omega)
  have s2 : decide ((4096 : Int) < (size : Nat)) = false := decide_eq_false (by omega)
  clear h hA h0 e0
  go_enter Tryz.func9, Tryz.ntmps9
  go_wp2_with fail
  refine (HC.out _).mono ?_
  rintro e w1 ⟨rfl, rfl⟩
  clear HC
  go_wp2
  go_ret2
  exact ⟨by simp, HA.out⟩
end
/-- A new store, and a new file in it. -/
theorem k_new {w0 w : World} {p : Nat} (h : At w0 p [] J.new w) (nm : J.B) (rel : Bool) (size : Nat) (h1 : nm ≠ []) (h2 : nm.length ≤ 3) (h0 : decide (0 ≤ Lib.indexByte nm 0) = false) (h3 : 1 ≤ size) (h4 : size ≤ 4096) :
    Calls Tryz.prog 9 #[.pointer (some ⟨p, 0, none⟩), .agg #[.string ⟨nm.toArray⟩, .bool rel, .int .i64 (size : Nat)]] w fun e w' => ∃ pf, e = .returned (.tuple #[.pointer (some ⟨pf, 0, none⟩), .int .i64 0]) ∧ K w0 p pf nm 0 [] ⟨rel, size, false, [], 0, 0, 0⟩ [[]] w' := by
  refine (new_file h nm rel size h1 (by omega) h0 h3 h4).mono ?_
  rintro e w' ⟨rfl, ha⟩
  exact ⟨_, rfl, J.new, ha, R.kp_new nm rel size ⟨h3, h4⟩, fun x hx => (by cases hx), h2⟩
end Go.Proofs.YtjbepnkchoaipaaGreat
