import Derived.Test.YtjbepnkchoaipaaGreatM33
import Derived.Test.YtjbepnkchoaipaaGreatM30
import Derived.Test.YtjbepnkchoaipaaGreatM35
set_option linter.unusedVariables false
set_option linter.unusedSimpArgs false
/- Law 31, plain: the file as the law's model has it, and what its operations make of it. -/
namespace Go.Proofs.YtjbepnkchoaipaaGreat
namespace R
theorem while_asc (n : Nat) : ∀ (rows : Rows), (rows.Pairwise fun a b => a.1 < b.1) →
    (del rows n).takeWhile (fun r => decide (r.1 < n)) = rows.filter (fun r => decide (r.1 < n)) ∧ (del rows n).dropWhile (fun r => decide (r.1 < n)) = rows.filter (fun r => decide (n < r.1))
  | [], _ => ⟨rfl, rfl⟩
  | r :: t, h => by
    obtain ⟨h1, h2⟩ := List.pairwise_cons.1 h
    obtain ⟨i1, i2⟩ := while_asc n t h2
    have hd : del (r :: t) n = if r.1 = n then del t n else r :: del t n := by
      unfold del
      by_cases e : r.1 = n
      · rw [if_pos e, List.filter_cons_of_neg (by simp [e])]
      · rw [if_neg e, List.filter_cons_of_pos (by simp [e])]
    rw [hd]
    by_cases e : r.1 = n
    · rw [if_pos e, i1, i2, List.filter_cons_of_neg (by simp [e]), List.filter_cons_of_neg (by simp [e])]
      exact ⟨rfl, rfl⟩
    · rw [if_neg e]
      by_cases l : r.1 < n
      · rw [List.takeWhile_cons, List.dropWhile_cons, if_pos (by simpa using l), if_pos (by simpa using l), i1, i2, List.filter_cons_of_pos (by simpa using l), List.filter_cons_of_neg (by simp; omega)]
        exact ⟨rfl, rfl⟩
      · have hno : t.filter (fun r => decide (r.1 < n)) = [] := List.filter_eq_nil_iff.2 (fun x hx => by have := h1 x hx; simp; omega)
        have hall : ∀ x ∈ del t n, x ∈ t := fun x hx => (mem_del hx).1
        have hd2 : del t n = t.filter (fun r => decide (n < r.1)) := List.filter_congr fun x hx => by
          have := h1 x hx
          have h3 : n < x.1 := by omega
          have h4 : x.1 ≠ n := by omega
          simp [h3, h4]
        rw [List.takeWhile_cons, List.dropWhile_cons, if_neg (by simpa using l), if_neg (by simpa using l), List.filter_cons_of_neg (by simpa using l), List.filter_cons_of_pos (by simp; omega), hno, hd2]
        exact ⟨rfl, rfl⟩
/-- put is what the law's model does. -/
theorem put_eq {rows : Rows} (h : RowsOk rows) (n : Nat) (b : B) : put rows n b = rows.filter (fun r => decide (r.1 < n)) ++ (n, b) :: rows.filter (fun r => decide (n < r.1)) := by
  obtain ⟨h1, h2⟩ := while_asc n rows h.asc
  unfold put; rw [h1, h2]
theorem mem_put {rows : Rows} (h : RowsOk rows) {n : Nat} {b : B} {r : Nat × B} (hr : r ∈ put rows n b) : r = (n, b) ∨ r ∈ rows := by
  rw [put_eq h] at hr
  rcases List.mem_append.1 hr with hr | hr
  · exact .inr (List.mem_filter.1 hr).1
  · rcases List.mem_cons.1 hr with hr | hr
    · exact .inl hr
    · exact .inr (List.mem_filter.1 hr).1
theorem ok_put {rows : Rows} (h : RowsOk rows) {n : Nat} (b : B) (h1 : 1 ≤ n) (h2 : n ≤ 65536) : RowsOk (put rows n b) := by
  refine ⟨?_, fun r hr => ?_⟩
  · rw [put_eq h]
    refine List.pairwise_append.2 ⟨List.Pairwise.filter _ h.asc, List.pairwise_cons.2 ⟨fun x hx => ?_, List.Pairwise.filter _ h.asc⟩, fun x hx y hy => ?_⟩
    · simpa using (List.mem_filter.1 hx).2
    · have hx := (List.mem_filter.1 hx).2
      simp only [decide_eq_true_eq] at hx
      rcases List.mem_cons.1 hy with rfl | hy
      · exact hx
      · have hy := (List.mem_filter.1 hy).2
        simp only [decide_eq_true_eq] at hy
        omega
  · rcases mem_put h hr with rfl | hr
    · exact ⟨h1, h2⟩
    · exact h.pos r hr
theorem ok_del {rows : Rows} (h : RowsOk rows) (n : Nat) : RowsOk (del rows n) := ⟨List.Pairwise.filter _ h.asc, fun r hr => h.pos r (mem_del hr).1⟩
theorem ok_nil : RowsOk [] := ⟨List.Pairwise.nil, fun _ h => by cases h⟩
theorem len_put {rows : Rows} (h : RowsOk rows) (n : Nat) (b : B) : (put rows n b).length ≤ rows.length + 1 := by
  rw [put_eq h, List.length_append, List.length_cons]
  have : ∀ (l : Rows), (l.filter (fun r => decide (r.1 < n))).length + (l.filter (fun r => decide (n < r.1))).length ≤ l.length := fun l => by
    induction l with
    | nil => exact Nat.le_refl _
    | cons r t ih =>
      rw [List.filter_cons, List.filter_cons, List.length_cons]
      by_cases h1 : r.1 < n
      · rw [if_pos (by simpa using h1), if_neg (by simp; omega), List.length_cons]; omega
      · rw [if_neg (by simpa using h1)]
        split
        · rw [List.length_cons]; omega
        · omega
  have := this rows
  omega
theorem look_mem {rows : Rows} {n : Nat} {b : B} (h : look rows n = some b) : (n, b) ∈ rows := by
  induction rows with
  | nil => cases h
  | cons r t ih =>
    unfold look at h
    split at h
    · rename_i e
      injection h with h
      subst e; subst h
      exact List.mem_cons_self
    · exact List.mem_cons_of_mem _ (ih h)
theorem look_of_mem {rows : Rows} (h : RowsOk rows) {r : Nat × B} (hr : r ∈ rows) : look rows r.1 = some r.2 := by
  have ha := h.asc
  clear h
  induction rows with
  | nil => cases hr
  | cons x t ih =>
    obtain ⟨h1, h2⟩ := List.pairwise_cons.1 ha
    unfold look
    rcases List.mem_cons.1 hr with rfl | hr
    · rw [if_pos rfl]
    · rw [if_neg (by have := h1 r hr; omega)]
      exact ih hr h2
/-- The file in the law's model. -/
structure M where
  rel : Bool
  size : Nat
  there : Bool
  rows : Rows
  mode : Nat
  next : Nat
  last : Nat
def M.at (m : M) : Option B := if m.there then some (attr m.rel m.size) else none
/-- The contents of its store. -/
def M.map (nm : B) (m : M) : List (B × B) := fmap nm m.at m.rows
structure MOk (u : Nat) (m : M) : Prop where
  rows : RowsOk m.rows
  len : ∀ r ∈ m.rows, 1 ≤ r.2.length ∧ r.2.length ≤ m.size
  size : 1 ≤ m.size ∧ m.size ≤ 4096
  many : m.rows.length ≤ u
  none : m.there = false → m.rows = [] ∧ m.mode = 0
  next : m.next ≤ 65537
  last : m.last = 0 ∨ ∃ b, look m.rows m.last = some b
theorem MOk.last_le {u : Nat} {m : M} (h : MOk u m) : m.last ≤ 65536 := by
  rcases h.last with h0 | ⟨b, hb⟩
  · omega
  · exact (h.rows.pos _ (look_mem hb)).2
theorem MOk.mono {u v : Nat} {m : M} (h : MOk u m) (hv : u ≤ v) : MOk v m := ⟨h.rows, h.len, h.size, Nat.le_trans h.many hv, h.none, h.next, h.last⟩
theorem MOk.look_len {u : Nat} {m : M} (h : MOk u m) {n : Nat} {b : B} (hb : look m.rows n = some b) : 1 ≤ b.length ∧ b.length ≤ m.size := h.len _ (look_mem hb)
theorem map_look {u : Nat} {nm : B} {m : M} (h : MOk u m) {n : Nat} (hn : n < 4294967296) : J.look (m.map nm) (key nm n) = look m.rows n := by
  unfold M.map M.at
  cases ht : m.there with
  | true => exact look_key h.rows hn
  | false => rw [(h.none ht).1]; rfl
/-- The record with a number. -/
def lookI (rows : Rows) (k : Int) : Option B := if 1 ≤ k ∧ k ≤ 65536 then look rows k.toNat else none
abbrev good : B := [48, 48]
def M.open (m : M) (md : Nat) : M × B :=
  if md < 1 ∨ 4 < md then (m, [51, 48]) else if m.mode ≠ 0 then (m, [52, 49]) else if md ≠ 2 ∧ m.there = false then (m, [51, 53])
  else ({ m with there := true, rows := if md = 2 then [] else m.rows, mode := md, next := 1, last := 0 }, good)
def M.close (m : M) : M × B := if m.mode = 0 then (m, [52, 50]) else ({ m with mode := 0 }, good)
def M.nextR (m : M) : M × Option (Nat × B) × B :=
  if chk [52, 55] false 1 3 m.rel m.mode ≠ good then (m, none, chk [52, 55] false 1 3 m.rel m.mode)
  else if m.next = 0 then ({ m with last := 0 }, none, [52, 54])
  else match m.rows.find? (fun r => decide (m.next ≤ r.1)) with
  | some r => ({ m with next := r.1 + 1, last := r.1 }, some r, good)
  | none => ({ m with next := 0, last := 0 }, none, [49, 48])
def M.readR (m : M) (k : Int) : M × Option B × B :=
  if chk [52, 55] true 1 3 m.rel m.mode ≠ good then (m, none, chk [52, 55] true 1 3 m.rel m.mode)
  else match lookI m.rows k with
  | some b => ({ m with next := k.toNat + 1, last := k.toNat }, some b, good)
  | none => ({ m with next := 0, last := 0 }, none, [50, 51])
def lastN (rows : Rows) : Nat := match rows.getLast? with
  | some r => r.1
  | none => 0
def M.append (m : M) (b : B) : M × Nat × B :=
  if chk [52, 56] false 2 4 m.rel m.mode ≠ good then (m, 0, chk [52, 56] false 2 4 m.rel m.mode)
  else if ¬ (0 < b.length ∧ b.length ≤ m.size) then ({ m with last := 0 }, 0, [52, 52])
  else if 65536 < lastN m.rows + 1 then ({ m with last := 0 }, 0, [50, 52])
  else ({ m with last := 0, rows := put m.rows (lastN m.rows + 1) b }, lastN m.rows + 1, good)
def M.write (m : M) (k : Int) (b : B) : M × B :=
  if chk [52, 56] true 2 3 m.rel m.mode ≠ good then (m, chk [52, 56] true 2 3 m.rel m.mode)
  else if ¬ (0 < b.length ∧ b.length ≤ m.size) then ({ m with last := 0 }, [52, 52])
  else if k < 1 ∨ 65536 < k then ({ m with last := 0 }, [50, 52])
  else match look m.rows k.toNat with
  | some _ => ({ m with last := 0 }, [50, 50])
  | none => ({ m with last := 0, rows := put m.rows k.toNat b }, good)
def M.num (m : M) (k : Int) : Int := if k = 0 then m.last else k
def M.rewrite (m : M) (k : Int) (b : B) : M × B :=
  if chk [52, 57] (decide (k ≠ 0)) 3 3 m.rel m.mode ≠ good then (m, chk [52, 57] (decide (k ≠ 0)) 3 3 m.rel m.mode)
  else if m.num k = 0 then ({ m with last := 0 }, [52, 51])
  else if ¬ ((0 < b.length ∧ b.length ≤ m.size) ∧ (m.rel = true ∨ ((lookI m.rows (m.num k)).getD []).length = b.length)) then ({ m with last := 0 }, [52, 52])
  else match lookI m.rows (m.num k) with
  | none => ({ m with last := 0 }, [50, 51])
  | some _ => ({ m with last := 0, rows := put m.rows (m.num k).toNat b }, good)
def M.delete (m : M) (k : Int) : M × B :=
  if chk [52, 57] true 3 3 m.rel m.mode ≠ good then (m, chk [52, 57] true 3 3 m.rel m.mode)
  else if m.num k = 0 then ({ m with last := 0 }, [52, 51])
  else match lookI m.rows (m.num k) with
  | none => ({ m with last := 0 }, [50, 51])
  | some _ => ({ m with last := 0, rows := del m.rows (m.num k).toNat }, good)
/-- The position that Start finds. -/
def pos (r : Nat) (k : Int) (rows : Rows) : Nat :=
  match (if r = 3 ∨ r = 4 then rows.reverse.find? (fun x => holds r x.1 k) else rows.find? (fun x => holds r x.1 k)) with
  | some x => x.1
  | none => 0
def M.start (m : M) (r : Nat) (k : Int) : M × B :=
  if chk [52, 55] true 1 3 m.rel m.mode ≠ good then (m, chk [52, 55] true 1 3 m.rel m.mode)
  else ({ m with next := pos r k m.rows, last := 0 }, if pos r k m.rows = 0 then [50, 51] else good)
end R
end Go.Proofs.YtjbepnkchoaipaaGreat
/- Law 31, plain: the operations keep what holds of the model; the store beside it. -/
namespace Go.Proofs.YtjbepnkchoaipaaGreat
open Go.RowKit Go.Lib Go.Maps Go.WideMaps Go.Sort
namespace R
section
variable {u : Nat} {m : M}
theorem MOk.set (h : MOk u m) (md nx la : Nat) (hn : nx ≤ 65537) (hl : la = 0 ∨ ∃ b, look m.rows la = some b) (hmd : m.there = false → md = 0) : MOk (u + 1) { m with mode := md, next := nx, last := la } :=
  ⟨h.rows, h.len, h.size, Nat.le_succ_of_le h.many, fun e => ⟨(h.none e).1, hmd e⟩, hn, hl⟩
theorem MOk.rowsPut (h : MOk u m) (ht : m.there = true) {n : Nat} {b : B} (h1 : 1 ≤ n) (h2 : n ≤ 65536) (hb : 0 < b.length ∧ b.length ≤ m.size) : MOk (u + 1) { m with last := 0, rows := put m.rows n b } := by
  refine ⟨ok_put h.rows b h1 h2, fun r hr => ?_, h.size, ?_, (fun e => by rw [show m.there = false from e] at ht; cases ht), h.next, .inl rfl⟩
  · rcases mem_put h.rows hr with rfl | hr
    · exact hb
    · exact h.len r hr
  · have := len_put h.rows n b
    have := h.many
    show (put m.rows n b).length ≤ u + 1
    omega
theorem MOk.rowsDel (h : MOk u m) (n : Nat) : MOk (u + 1) { m with last := 0, rows := del m.rows n } := by
  refine ⟨ok_del h.rows n, fun r hr => h.len r (mem_del hr).1, h.size, ?_, fun e => ⟨by have := (h.none e).1; show del m.rows n = []; rw [this]; rfl, (h.none e).2⟩, h.next, .inl rfl⟩
  have h1 : (del m.rows n).length ≤ m.rows.length := List.length_filter_le _ _
  have := h.many
  show (del m.rows n).length ≤ u + 1
  omega
theorem ok_last0 (h : MOk u m) : MOk (u + 1) { m with last := 0 } := h.set m.mode m.next 0 h.next (.inl rfl) (fun e => (h.none e).2)
theorem ok_open (h : MOk u m) (md : Nat) : MOk (u + 1) (m.open md).1 := by
  unfold M.open
  split
  · exact h.mono (Nat.le_succ u)
  · split
    · exact h.mono (Nat.le_succ u)
    · split
      · exact h.mono (Nat.le_succ u)
      · by_cases e : md = 2
        · refine ⟨?_, ?_, h.size, ?_, (fun x => by cases x), (by show 1 ≤ 65537; decide), .inl rfl⟩
          · show RowsOk (if md = 2 then [] else m.rows); rw [if_pos e]; exact ok_nil
          · intro r hr
            have hr : r ∈ (if md = 2 then [] else m.rows) := hr
            rw [if_pos e] at hr; cases hr
          · show (if md = 2 then [] else m.rows).length ≤ _; rw [if_pos e]; exact Nat.zero_le _
        · refine ⟨?_, ?_, h.size, ?_, (fun x => by cases x), (by show 1 ≤ 65537; decide), .inl rfl⟩
          · show RowsOk (if md = 2 then [] else m.rows); rw [if_neg e]; exact h.rows
          · intro r hr
            have hr : r ∈ (if md = 2 then [] else m.rows) := hr
            rw [if_neg e] at hr; exact h.len r hr
          · show (if md = 2 then [] else m.rows).length ≤ _; rw [if_neg e]; exact Nat.le_succ_of_le h.many
theorem ok_close (h : MOk u m) : MOk (u + 1) m.close.1 := by
  unfold M.close
  split
  · exact h.mono (Nat.le_succ u)
  · exact h.set 0 m.next m.last h.next h.last (fun _ => rfl)
theorem there_of_mode (h : MOk u m) {wr : B} {need : Bool} {a b : Nat} (hs : ¬ chk wr need a b m.rel m.mode ≠ good) (hw : wr ≠ good) : m.there = true := by
  cases ht : m.there with
  | true => rfl
  | false =>
    exfalso
    apply hs
    have h0 := (h.none ht).2
    unfold chk
    rw [if_pos h0]
    split <;> (intro e; revert e; decide)
theorem ok_next (h : MOk u m) : MOk (u + 1) m.nextR.1 := by
  unfold M.nextR
  split
  · exact h.mono (Nat.le_succ u)
  · split
    · exact ok_last0 h
    · split
      · rename_i r hr
        have hm := List.mem_of_find?_eq_some hr
        have := (h.rows.pos r hm).2
        exact h.set m.mode (r.1 + 1) r.1 (by omega) (.inr ⟨r.2, look_of_mem h.rows hm⟩) (fun e => (h.none e).2)
      · exact h.set m.mode 0 0 (by decide) (.inl rfl) (fun e => (h.none e).2)
theorem ok_read (h : MOk u m) (k : Int) : MOk (u + 1) (m.readR k).1 := by
  unfold M.readR
  split
  · exact h.mono (Nat.le_succ u)
  · split
    · rename_i b hb
      unfold lookI at hb
      split at hb
      · rename_i hk
        exact h.set m.mode (k.toNat + 1) k.toNat (by omega) (.inr ⟨b, hb⟩) (fun e => (h.none e).2)
      · cases hb
    · exact h.set m.mode 0 0 (by decide) (.inl rfl) (fun e => (h.none e).2)
theorem ok_append (h : MOk u m) (b : B) : MOk (u + 1) (m.append b).1 := by
  unfold M.append
  split
  · exact h.mono (Nat.le_succ u)
  · rename_i hs
    have ht := there_of_mode h hs (by decide)
    split
    · exact ok_last0 h
    · rename_i hb
      split
      · exact ok_last0 h
      · exact h.rowsPut ht (by omega) (by omega) (Decidable.not_not.1 hb)
theorem ok_write (h : MOk u m) (k : Int) (b : B) : MOk (u + 1) (m.write k b).1 := by
  unfold M.write
  split
  · exact h.mono (Nat.le_succ u)
  · rename_i hs
    have ht := there_of_mode h hs (by decide)
    split
    · exact ok_last0 h
    · rename_i hb
      split
      · exact ok_last0 h
      · split
        · exact ok_last0 h
        · exact h.rowsPut ht (by omega) (by omega) (Decidable.not_not.1 hb)
theorem lookI_some {rows : Rows} {k : Int} {b : B} (h : lookI rows k = some b) : (1 ≤ k ∧ k ≤ 65536) ∧ look rows k.toNat = some b := by
  unfold lookI at h
  split at h
  · rename_i hk; exact ⟨hk, h⟩
  · cases h
theorem ok_rewrite (h : MOk u m) (k : Int) (b : B) : MOk (u + 1) (m.rewrite k b).1 := by
  unfold M.rewrite
  split
  · exact h.mono (Nat.le_succ u)
  · rename_i hs
    have ht := there_of_mode h hs (by decide)
    split
    · exact ok_last0 h
    · split
      · exact ok_last0 h
      · rename_i hb
        split
        · exact ok_last0 h
        · rename_i b' hb'
          have hk := (lookI_some hb').1
          exact h.rowsPut ht (by omega) (by omega) (Decidable.not_not.1 hb).1
theorem ok_delete (h : MOk u m) (k : Int) : MOk (u + 1) (m.delete k).1 := by
  unfold M.delete
  split
  · exact h.mono (Nat.le_succ u)
  · split
    · exact ok_last0 h
    · split
      · exact ok_last0 h
      · exact h.rowsDel _
theorem pos_le (h : MOk u m) (r : Nat) (k : Int) : pos r k m.rows ≤ 65536 := by
  unfold pos
  split
  · rename_i x hx
    have hm : x ∈ m.rows := by
      split at hx
      · exact List.mem_reverse.1 (List.mem_of_find?_eq_some hx)
      · exact List.mem_of_find?_eq_some hx
    exact (h.rows.pos x hm).2
  · decide
theorem ok_start (h : MOk u m) (r : Nat) (k : Int) : MOk (u + 1) (m.start r k).1 := by
  unfold M.start
  split
  · exact h.mono (Nat.le_succ u)
  · have := pos_le h r k
    exact h.set m.mode (pos r k m.rows) 0 (by omega) (.inl rfl) (fun e => (h.none e).2)
end
/-- The store beside the model; L: the contents behind each commit. -/
structure Kp (nm : B) (u : Nat) (m : M) (L : List (List (B × B))) (s : J.St) : Prop where
  mok : MOk u m
  sto : Sto u (m.map nm) s
  hist : J.Hist True s 0 L (List.range L.length)
  len : L.length = s.writes.length + 1
/-- At most one commit more. -/
def Ext (nm : B) (L L' : List (List (B × B))) (m' : M) : Prop := L' = L ∨ L' = L ++ [m'.map nm]
section
variable {nm : B} {u : Nat} {m m' : M} {L : List (List (B × B))} {s s1 : J.St}
theorem kp_new (nm : B) (rel : Bool) (size : Nat) (h : 1 ≤ size ∧ size ≤ 4096) : Kp nm 0 ⟨rel, size, false, [], 0, 0, 0⟩ [[]] J.new :=
  ⟨⟨ok_nil, fun _ h => (by cases h), h, Nat.le_refl _, fun _ => ⟨rfl, rfl⟩, Nat.zero_le _, .inl rfl⟩, sto_new, J.hist_base (J.inv_new True) rfl, rfl⟩
theorem Kp.same (h : Kp nm u m L s) (hm : MOk (u + 1) m') (he : m'.map nm = m.map nm) : Kp nm (u + 1) m' L s :=
  ⟨hm, by rw [he]; exact h.sto.mono (Nat.le_succ u), h.hist, h.len⟩
theorem Kp.tx (h : Kp nm u m L s) (hm : MOk (u + 1) m') (ht : Tx u s s1 (m'.map nm)) : Kp nm (u + 1) m' (L ++ [m'.map nm]) (J.committed s1) := by
  refine ⟨hm, ht.sto, ?_, by rw [List.length_append, h.len, ht.wr]; rfl⟩
  have := ht.hist _ _ _ h.hist
  rw [List.length_append, List.length_singleton, List.range_succ, h.len]
  rw [h.len] at this
  exact this
theorem Kp.last (h : Kp nm u m L s) : L[s.writes.length]? = some (m.map nm) := by
  have h1 := h.hist.last
  rw [List.length_range, h.len, Nat.add_sub_cancel] at h1
  rw [h1]
  unfold J.St.com
  rw [h.sto.opn, ← h.sto.now]; rfl
theorem key_ne (nm : B) (n : Nat) : key nm n ≠ [] := fun e => by have := key_len nm n; rw [e] at this; simp at this
theorem own_ne (nm : B) : own nm ≠ [] := fun e => by have := own_len nm; rw [e] at this; simp at this
theorem map_len (h : MOk u m) : (m.map nm).length ≤ u + 1 := by
  have := h.many
  unfold M.map M.at
  cases m.there with
  | true => show (_ :: m.rows.map _).length ≤ _; rw [List.length_cons, List.length_map]; omega
  | false => exact Nat.zero_le _
/-- A record is put. -/
theorem Kp.put (h : Kp nm u m L s) (hu : u ≤ 340) (hnm : nm.length ≤ 3) (ht : m.there = true) {n : Nat} {b : B} (h1 : 1 ≤ n) (h2 : n ≤ 65536) (hb : 0 < b.length ∧ b.length ≤ m.size) :
    ∃ s1, J.add (J.begin_ s) ⟨key nm n, b, false⟩ = (s1, 0) ∧ Tx u s s1 (M.map nm { m with last := 0, rows := R.put m.rows n b }) := by
  have hm := h.mok.rowsPut ht h1 h2 hb
  have he : J.ins s.now (key nm n) b = M.map nm { m with last := 0, rows := R.put m.rows n b } := by
    rw [h.sto.now]
    unfold M.map M.at
    dsimp only
    rw [ht]
    exact ins_key h.mok.rows (by omega)
  have hs := h.mok.size
  have := map_len (nm := nm) hm
  rw [← he]
  exact tx_put h.sto hu (key nm n) b (key_ne nm n) (by rw [key_len]; omega) (by omega) (by rw [he]; omega)
theorem Kp.del (h : Kp nm u m L s) (hu : u ≤ 340) (hnm : nm.length ≤ 3) {n : Nat} (h2 : n ≤ 65536) {b : B} (hl : look m.rows n = some b) :
    ∃ s1, J.delete (J.begin_ s) (key nm n) = (s1, 0) ∧ Tx u s s1 (M.map nm { m with last := 0, rows := R.del m.rows n }) := by
  have ht : m.there = true := by
    cases ht : m.there with
    | true => rfl
    | false => rw [(h.mok.none ht).1] at hl; cases hl
  have he : J.del s.now (key nm n) = M.map nm { m with last := 0, rows := R.del m.rows n } := by
    rw [h.sto.now]
    unfold M.map M.at
    dsimp only
    rw [ht]
    exact del_key h.mok.rows (by omega)
  rw [← he]
  refine tx_del h.sto hu (key nm n) (key_ne nm n) (by rw [key_len]; omega) ?_
  rw [h.sto.now, map_look h.mok (by omega), hl]
  intro e; cases e
end
end R
end Go.Proofs.YtjbepnkchoaipaaGreat
/- Law 31: Open's transaction. -/
namespace Go.Proofs.YtjbepnkchoaipaaGreat
open Go.RowKit Go.Lib Go.Maps Go.WideMaps Go.Sort
set_option maxRecDepth 100000
section
variable {w0 : World} {p pf : Nat} {nm : J.B} {rel : Bool} {size mode nxt last u : Nat} {w : World} {s : J.St} {old : List (J.B × J.B)} {fs : List (Nat × Obj)}
/-- The box of a string. -/
abbrev boxS (v : ByteArray) : Obj := .cells #[.string v] 9 (0, 0)
/-- The strings of a slice that is newer than the store are kept with it. -/
theorem strs_keep {w' : World} {A : Option Addr} {ks : List J.B} (h : At w0 p fs s w) (hb : Below w.heap.size w w') (hs : StrsAt w' A ks) (hg : ∀ g, A = some ⟨g, 0, none⟩ → w.heap.size ≤ g) :
    ∃ gs, (∀ x ∈ fs, x ∈ gs) ∧ At w0 p gs s w' ∧ ∀ t W, At w0 p gs t W → StrsAt W A ks := by
  by_cases hk : 0 < ks.length
  · obtain ⟨g, e, hl, hc⟩ := hs hk
    obtain ⟨o, ho⟩ : ∃ o, w'.heap[g]? = some o := ⟨_, Array.getElem?_eq_getElem hl⟩
    refine ⟨[(g, o)] ++ fs, fun x hx => List.mem_append_right _ hx, h.add hb (fun x hx => ?_), fun t W hW => fun _ => ?_⟩
    · simp only [List.mem_singleton] at hx; subst hx; exact ⟨hg g e, ho⟩
    · have hW2 := hW.get (List.mem_append_left _ (List.mem_singleton.2 rfl) : (g, o) ∈ [(g, o)] ++ fs)
      exact ⟨g, e, (Array.getElem?_eq_some_iff.1 hW2).1, fun j hj => (World.cell?_of_block (hW2.trans ho.symm)).trans (hc j hj)⟩
  · exact ⟨fs, fun x hx => hx, h.below hb, fun t W _ h0 => absurd h0 hk⟩
theorem all_str (nm : J.B) : (⟨nm.toArray⟩ : ByteArray) ++ ⟨#[0]⟩ = ⟨(nm ++ [0]).toArray⟩ := str_app nm [0]
theorem own_str (nm : J.B) : (⟨nm.toArray⟩ : ByteArray) ++ ⟨#[0, 65]⟩ = ⟨(R.own nm).toArray⟩ := str_app nm [0, 65]
/-- What holds at the beginning of a round of Open's removals. -/
structure OpI (w0 : World) (p : Nat) (gs : List (Nat × Obj)) (s : J.St) (k : Nat) (W : World) : Prop where
  at_ : At w0 p gs (R.opened s (R.dels ((s.now.map (·.1)).take k)) (s.now.drop k)) W
  inv : J.Inv True (R.opened s (R.dels ((s.now.map (·.1)).take k)) (s.now.drop k))
theorem opi_zero (hs : R.Sto u old s) {gs : List (Nat × Obj)} (h : At w0 p gs (R.opened s [] s.now) w) : OpI w0 p gs s 0 w := ⟨h, R.inv_opened hs⟩
theorem dels_small {ks : List J.B} (h : ∀ k ∈ ks, k.length ≤ 9) : (J.encs (R.dels ks)).length ≤ 12 * ks.length := R.dels_len ks 9 h
theorem take_map_mem {l : List J.B} {n : Nat} {x : J.B} (h : x ∈ l.take n) : x ∈ l := List.mem_of_mem_take h
theorem opi_step (hs : R.Sto u old s) {gs : List (Nat × Obj)} {W : World} {k : Nat} (h : OpI w0 p gs s k W) (hk : k < (s.now.map (·.1)).length) (hkl : ∀ k ∈ s.now.map (·.1), k.length ≤ 9) (hm : s.now.length ≤ 1000) :
    Calls Tryz.prog 39 #[.pointer (some ⟨p, 0, none⟩), encStr ((s.now.map (·.1))[k])] W fun e w' => e = .returned (.int .i64 0) ∧ OpI w0 p gs s (k + 1) w' := by
  have hk' : k < s.now.length := by simpa using hk
  have hd : s.now.drop k = s.now[k] :: s.now.drop (k + 1) := List.drop_eq_getElem_cons hk'
  have hkk : (s.now.map (·.1))[k] = (s.now[k]).1 := List.getElem_map _
  have ht : (s.now.map (·.1)).take (k + 1) = (s.now.map (·.1)).take k ++ [(s.now[k]).1] := by rw [List.take_succ_eq_append_getElem hk, hkk]
  have hin : (s.now[k]).1 ∈ s.now.map (·.1) := List.mem_map_of_mem (List.getElem_mem hk')
  have hlen := dels_small (ks := (s.now.map (·.1)).take k) (fun x hx => hkl x (take_map_mem hx))
  have hll : ((s.now.map (·.1)).take k).length ≤ 1000 := by rw [List.length_take, List.length_map]; omega
  have hi := h.inv
  have ha := h.at_
  rw [hd] at hi ha
  obtain ⟨g1, g2⟩ := R.open_step hs ((s.now.map (·.1)).take k) (s.now.drop (k + 1)) s.now[k] hi (by omega)
  rw [hkk]
  refine (at_delete ha (s.now[k]).1 (by have := hkl _ hin; omega) 0 g1).mono ?_
  rintro e w' ⟨rfl, h2⟩
  exact ⟨rfl, ⟨by rw [ht]; exact h2, by rw [ht]; exact g2⟩⟩
/-- Its end: the attributes are put. -/
theorem opi_end (hs : R.Sto u old s) (hu : u ≤ 340) {gs : List (Nat × Obj)} {W : World} {a : J.B} {v : Value} (h : OpI w0 p gs s (s.now.map (·.1)).length W) (hkl : ∀ k ∈ s.now.map (·.1), k.length ≤ 9) (hm : s.now.length ≤ 341) (hnm : nm.length ≤ 3) (hal : a.length = 5) (hv : Sl W NoM v a) :
    ∃ s1, (Calls Tryz.prog 40 #[.pointer (some ⟨p, 0, none⟩), .string ⟨(R.own nm).toArray⟩, v] W fun e w' => e = .returned (.int .i64 0) ∧ At w0 p gs s1 w') ∧ R.Tx u s s1 [(R.own nm, a)] ∧ s1 = R.opened s (R.dels (s.now.map (·.1)) ++ [⟨R.own nm, a, false⟩]) [(R.own nm, a)] := by
  have hi := h.inv
  have ha := h.at_
  rw [List.take_length, List.length_map, List.drop_length] at hi ha
  have hlen := dels_small (ks := s.now.map (·.1)) hkl
  have hl2 : (s.now.map (·.1)).length ≤ 341 := by rw [List.length_map]; exact hm
  obtain ⟨g1, g2⟩ := R.open_last hs hu (s.now.map (·.1)) (R.own nm) a hi (R.own_ne nm) (by rw [R.own_len]; omega) (by omega) (by rw [R.own_len]; omega)
  exact ⟨_, at_put ha rfl (R.own nm) a v (R.own_ne nm) (by rw [R.own_len]; omega) (by omega) hv 0 g1, g2, rfl⟩
set_option maxHeartbeats 1000000 in
theorem open1_any (hs : R.Sto u old s) (hu : u ≤ 340) (h : At w0 p fs (R.opened s [] s.now) w) (hf : (pf, fileO p nm rel size mode nxt last) ∈ fs) (Bf Bo : Nat) (hF : (Bf, boxF pf) ∈ fs) (hO : (Bo, boxS ⟨(R.own nm).toArray⟩) ∈ fs) (hnm : nm.length ≤ 3) (hsz : size < 4294967296)
    (hk : keysOf s.now ⟨(nm ++ [0]).toArray⟩ = s.now.map (·.1)) (hkl : ∀ k ∈ s.now.map (·.1), k.length ≤ 9) :
    Calls Tryz.prog 37 #[.pointer (some ⟨Bf, 0, none⟩), .pointer (some ⟨Bo, 0, none⟩)] w fun e w' => (∃ v, e = .returned v) ∧ At w0 p fs (R.opened s (R.dels (s.now.map (·.1)) ++ [⟨R.own nm, R.attr rel size, false⟩]) [(R.own nm, R.attr rel size)]) w' := by
  have hml : s.now.length ≤ 341 := by have := hs.many; omega
  have hrow := h.get hf
  have hbx := h.get hF
  have hks := fun w1 (hb : Below w.heap.size w w1) => (at_keys (h.below hb) ⟨(nm ++ [0]).toArray⟩ (show s.now.length ≤ 1000000 by omega))
  rw [show (R.opened s [] s.now).now = s.now from rfl, hk] at hks
  have HKS := Lib.hid hks
  have HAT := Lib.hid h
  have HF := Lib.hid hf
  have HBF := Lib.hid hF
  have HBO := Lib.hid hO
  have HKL := Lib.hid hkl
  have HS := Lib.hid hs
  have HR := Lib.hid hrow
  have HBX := Lib.hid hbx
  have hl1 : ¬ 9223372036854775807 < nm.length + 1 := by omega
  have hl2 := all_str nm
  clear h hf hF hO hk hkl hs hks
  go_enter Tryz.func37, Tryz.ntmps37
  go_upto_region 0 with fail
  refine wp_region_pe (.rd 0 (.rd 1 (.rd 2 (.rd 3 (.rd 4 (.rd 5 (.rd 6 (.rd 7 (.rd 8 (.rd 9 (.rd 12 (.wr 10 (.rd 11 .fin))))))))))))) (fun w' => w'.heap[pf]? = some (fileO p nm rel size mode nxt last) ∧ w'.heap[Bf]? = some (boxF pf)) (by kernel_rfl) (by kernel_rfl) (fun c a d v w h => by cases d <;> exact h) ⟨hrow, hbx⟩ ?_
  repeat
    refine wpPm_read (v := ?_) (by rfl) (by rfl) (fun w' hS => ?_) (fun K hK => ?_)
    rotate_left
    · have hc := fun j => cell_of_row w' pf j _ _ _ hS.1
      have hcb := fun j => cell_of_row w' Bf j _ _ _ hS.2
      clear hS
      go_simp
      try with_reducible rfl
    go_simp
    refine hK _ ?_
    clear hK K
  refine wpPm_write (by rfl) (fun K hK => ?_)
  go_simp
  refine (HKS.out _ ((Below.refl _ w).drew)).mono ?_
  rintro e w1 ⟨A, rfl, hst, ha1, hb1, hge⟩
  have hrw := ha1.get HF.out
  have hbw := ha1.get HBF.out
  refine hK.out _ _ (fun w' => w'.heap[pf]? = some (fileO p nm rel size mode nxt last) ∧ w'.heap[Bf]? = some (boxF pf)) (fun _ h => h) ⟨hrw, hbw⟩ ?_
  clear hK K
  repeat
    refine wpPm_read (v := ?_) (by rfl) (by rfl) (fun w' hS => ?_) (fun K hK => ?_)
    rotate_left
    · have hc := fun j => cell_of_row w' pf j _ _ _ hS.1
      have hcb := fun j => cell_of_row w' Bf j _ _ _ hS.2
      clear hS
      go_simp
      try with_reducible rfl
    go_simp
    refine hK _ ?_
    clear hK K
  show wpList _ _ _ _ _ _
  have HB1 := Lib.hid hb1
  have HA1 := Lib.hid ha1
  obtain ⟨gs, hgs, hag, hst2⟩ := strs_keep (HAT.out.below ((Below.refl _ w).drew)) hb1 hst hge
  have HGS := Lib.hid hgs
  have HST := Lib.hid hst2
  have HO0 := Lib.hid (opi_zero HS.out hag)
  clear hst ha1 hb1 hge hgs hag hst2 hrw hbw hrow hbx HR HBX HAT HKS hl1 hl2
  go_wp2
  go_loopw [16] (fun i W => ∃ k : Nat, k ≤ s.now.length ∧ i = .int .i64 k ∧ Hid (OpI w0 p gs s k W)) (fun i _ => s.now.length - (intOf i).toNat)
  case atStart => exact ⟨0, Nat.zero_le _, rfl, HO0⟩
  case round =>
    clear HO0
    obtain ⟨k, hk, rfl, HI⟩ := hrel
    by_cases hlt : k < s.now.length
    · have hlt' : k < (s.now.map (·.1)).length := by rw [List.length_map]; exact hlt
      obtain ⟨g, rfl, hgl, hstr⟩ := HST.out _ _ HI.out.at_ (by omega)
      have hck := hstr k hlt'
      have hc := fun j => cell_of_row wr pf j _ _ _ (HI.out.at_.get (HGS.out _ HF.out))
      have hcb := fun j => cell_of_row wr Bf j _ _ _ (HI.out.at_.get (HGS.out _ HBF.out))
      have HDL := Lib.hid (opi_step HS.out HI.out hlt' HKL.out (by omega))
      have HLT := Lib.hid hlt
      generalize (s.now.map (·.1))[k] = ky at hck HDL
      clear hstr hgl HI hlt'
      go_wp2_with fail
      refine HDL.out.mono ?_
      rintro e w3 ⟨rfl, hi⟩
      have HI := Lib.hid hi
      clear hi HDL hck hc hcb
      go_wp2
      go_roundw
      case rel => exact ⟨k + 1, HLT.out, by go_num, HI⟩
      case measure => have h1 := HLT.out; simp [intOf]; omega
    · obtain rfl : k = s.now.length := by omega
      have hrw := HI.out.at_.get (HGS.out _ HF.out)
      have hbw := HI.out.at_.get (HGS.out _ HBF.out)
      have how := HI.out.at_.get (HGS.out _ HBO.out)
      go_upto_region 5 with fail
      refine wp_region_pm 10 (.rd 0 (.rd 1 (.rd 2 (.rd 3 (.rd 4 (.rd 5 (.rd 6 (.rd 7 (.rd 8 (.wr 9 .fin)))))))))) (fun w' => w'.heap[pf]? = some (fileO p nm rel size mode nxt last) ∧ w'.heap[Bf]? = some (boxF pf) ∧ w'.heap[Bo]? = some (boxS ⟨(R.own nm).toArray⟩)) (by kernel_rfl) (by kernel_rfl) (fun c a d v w h => by cases d <;> exact h) ⟨hrw, hbw, how⟩ ?_
      repeat
        refine wpPm_read (v := ?_) (by rfl) (by rfl) (fun w' hS => ?_) (fun K hK => ?_)
        rotate_left
        · have hc := fun j => cell_of_row w' pf j _ _ _ hS.1
          have hcb := fun j => cell_of_row w' Bf j _ _ _ hS.2.1
          have hco := fun j => cell_of_row w' Bo j _ _ _ hS.2.2
          clear hS
          go_simp
          try with_reducible rfl
        go_simp
        refine hK _ ?_
        clear hK K
      refine wpPm_write (by rfl) (fun K hK => ?_)
      go_simp
      refine (attributes_any nm rel size _ hsz).mono ?_
      rintro e w4 ⟨v, rfl, hv, hb4⟩
      have hi4 : OpI w0 p gs s (s.now.map (·.1)).length w4 := by rw [List.length_map]; exact ⟨HI.out.at_.below (((Below.refl _ wr).drew).trans hb4), HI.out.inv⟩
      have hsl := own_slN hv
      obtain ⟨s1, hput, _, rfl⟩ := opi_end HS.out hu hi4 HKL.out hml hnm rfl hsl
      refine hK.out _ _ (fun w' => w'.heap[pf]? = some (fileO p nm rel size mode nxt last) ∧ w'.heap[Bf]? = some (boxF pf) ∧ w'.heap[Bo]? = some (boxS ⟨(R.own nm).toArray⟩)) (fun _ h => h) ⟨hi4.at_.get (HGS.out _ HF.out), hi4.at_.get (HGS.out _ HBF.out), hi4.at_.get (HGS.out _ HBO.out)⟩ ?_
      clear hK K
      have HPU := Lib.hid hput
      clear hv hb4 hi4 hsl hput hrw hbw how HI
      show wpList _ _ _ _ _ _
      go_wp2_with fail
      refine HPU.out.mono ?_
      rintro e w5 ⟨rfl, h5⟩
      have H5 := Lib.hid (h5.less HGS.out)
      clear h5 HPU
      go_wp2
      go_end0
      exact ⟨⟨_, rfl⟩, H5.out⟩
end
end Go.Proofs.YtjbepnkchoaipaaGreat
