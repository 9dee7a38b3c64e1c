
set_option linter.unusedVariables false
set_option linter.unusedSimpArgs false
/- The model of a store of journals: plain lists. Nothing of the program stands here. -/
namespace Go.Proofs.YtjbepnkchoaipaaGreat
namespace J
abbrev B := List UInt8
/-- Some bytes of a number, the least significant one first. -/
def leB : Nat → Nat → B
  | _, 0 => []
  | n, k + 1 => UInt8.ofNat n :: leB (n / 256) k
/-- The number in bytes. -/
def leV : B → Nat
  | [] => 0
  | b :: l => b.toNat + 256 * leV l
theorem leB_len : ∀ (k n : Nat), (leB n k).length = k
  | 0, _ => rfl
  | k + 1, n => by simp [leB, leB_len k]
theorem leV_leB : ∀ (k n : Nat), leV (leB n k) = n % 256 ^ k
  | 0, n => by simp [leB, leV, Nat.mod_one]
  | k + 1, n => by
    have ih := leV_leB k (n / 256)
    simp only [leB, leV, ih, UInt8.toNat_ofNat']
    have : n % 256 ^ (k + 1) = n % 256 + 256 * (n / 256 % 256 ^ k) := by
      rw [Nat.pow_succ, Nat.mul_comm (256 ^ k) 256, Nat.mod_mul]
    rw [this]
theorem leV_lt : ∀ (l : B), leV l < 256 ^ l.length
  | [] => by simp [leV]
  | b :: l => by
    have ih := leV_lt l
    have hb := b.toNat_lt
    simp only [leV, List.length_cons, Nat.pow_succ]
    omega
theorem leB_leV : ∀ (l : B), leB (leV l) l.length = l
  | [] => rfl
  | b :: l => by
    have ih := leB_leV l
    have hb := b.toNat_lt
    simp only [leV, List.length_cons, leB]
    have h1 : (b.toNat + 256 * leV l) / 256 = leV l := by omega
    rw [h1, ih]
    congr 1
    apply UInt8.toNat_inj.1
    rw [UInt8.toNat_ofNat']
    omega
theorem leB_snoc : ∀ (k n : Nat), leB n (k + 1) = leB n k ++ [UInt8.ofNat (n / 256 ^ k)]
  | 0, n => by simp [leB]
  | k + 1, n => by
    have ih := leB_snoc k (n / 256)
    show UInt8.ofNat n :: leB (n / 256) (k + 1) = _
    rw [ih, Nat.div_div_eq_div_mul, show 256 * 256 ^ k = 256 ^ (k + 1) by rw [Nat.pow_succ, Nat.mul_comm]]
    rfl
/-- The check of bytes. -/
def chkStep (s : Nat) (x : UInt8) : Nat := ((s ^^^ x.toNat) * 16777619) % 4294967296
def chk (l : B) : Nat := l.foldl chkStep 2166136261
theorem chk_snoc (l : B) (x : UInt8) : chk (l ++ [x]) = chkStep (chk l) x := by
  unfold chk; rw [List.foldl_append, List.foldl_cons, List.foldl_nil]
theorem chkStep_lt (s : Nat) (x : UInt8) : chkStep s x < 4294967296 := by unfold chkStep; omega
theorem chk_lt' : ∀ (l : B) (s : Nat), s < 4294967296 → l.foldl chkStep s < 4294967296
  | [], _, h => h
  | x :: t, s, _ => chk_lt' t _ (chkStep_lt s x)
theorem chk_lt (l : B) : chk l < 4294967296 := chk_lt' l 2166136261 (by omega)

structure Chg where
  key : B
  val : B
  gone : Bool
structure Img where
  h0 : B
  h1 : B
  a0 : B
  a1 : B
/-- A write: its kind (0 grow, 1 empty, 2 head), its index, its bytes. -/
structure Wr where
  kind : Nat
  idx : Nat
  bs : B
structure St where
  opn : Bool
  now : List (B × B)
  changes : List Chg
  size : Nat
  spoilt : Bool
  was : List (B × B)
  commits : Nat
  gen : Nat
  area : Nat
  side : Nat
  base : Img
  disk : Img
  writes : List Wr
  logged : Nat
def img0 : Img := ⟨[], [], [], []⟩
def new : St := ⟨false, [], [], 0, false, [], 0, 0, 0, 1, img0, img0, [], 0⟩

/-- The value of a key. -/
def look : List (B × B) → B → Option B
  | [], _ => none
  | p :: t, k => if p.1 = k then some p.2 else look t k
def del (l : List (B × B)) (k : B) : List (B × B) := l.filter fun p => !(p.1 == k)
def ins (l : List (B × B)) (k v : B) : List (B × B) := (del l k).takeWhile (fun p => decide (p.1 < k)) ++ (k, v) :: (del l k).dropWhile (fun p => decide (p.1 < k))

def Chg.len (c : Chg) : Nat := 3 + c.key.length + if c.gone then 0 else 4 + c.val.length
def Chg.enc (c : Chg) : B := if c.gone then 0 :: leB c.key.length 2 ++ c.key else 1 :: leB c.key.length 2 ++ c.key ++ leB c.val.length 4 ++ c.val
def encs (l : List Chg) : B := l.flatMap Chg.enc
def body (kind number : Nat) (l : List Chg) : B := UInt8.ofNat kind :: leB number 4 ++ leB (encs l).length 4 ++ encs l
def record (kind number : Nat) (l : List Chg) : B := body kind number l ++ leB (chk (body kind number l)) 4

def Img.area (m : Img) (i : Nat) : B := if i = 0 then m.a0 else m.a1
def Img.head (m : Img) (i : Nat) : B := if i = 0 then m.h0 else m.h1
def Img.setArea (m : Img) (i : Nat) (b : B) : Img := if i = 0 then { m with a0 := b } else { m with a1 := b }
def Img.setHead (m : Img) (i : Nat) (b : B) : Img := if i = 0 then { m with h0 := b } else { m with h1 := b }
/-- A disk behind a write of which only the first bytes are written. -/
def done (m : Img) (w : Wr) (many : Nat) : Img :=
  if w.kind = 0 then m.setArea w.idx (m.area w.idx ++ w.bs.take many)
  else if w.kind = 1 then m.setArea w.idx []
  else m.setHead w.idx (w.bs.take many ++ (m.head w.idx).drop many)
def write (s : St) (w : Wr) : St := { s with writes := s.writes ++ [w], logged := s.logged + w.bs.length, disk := done s.disk w w.bs.length }
def values (l : List (B × B)) : List Chg := l.map fun p => ⟨p.1, p.2, false⟩

def apply (s : St) (c : Chg) : St := { s with now := if c.gone then del s.now c.key else ins s.now c.key c.val }
def begin_ (s : St) : St := { s with opn := true, spoilt := false, changes := [], size := 13, was := s.now }
def add (s : St) (c : Chg) : St × Int :=
  if 4194304 - s.size < c.len then ({ s with spoilt := true }, 9) else (apply { s with changes := s.changes ++ [c], size := s.size + c.len } c, 0)
def put (s : St) (k v : B) : St × Int :=
  if s.opn = false then (s, 6) else if k = [] ∨ 300 < k.length then (s, 1) else if 8192 < v.length then (s, 3) else add s ⟨k, v, false⟩
def delete (s : St) (k : B) : St × Int :=
  if s.opn = false then (s, 6) else if look s.now k = none then (s, 7) else add s ⟨k, [], true⟩
def abandon (s : St) : St := { s with opn := false, changes := [], now := s.was, was := [] }
def latest : Nat := 4611686018427387904
def part (gen area : Nat) : B := leB gen 8 ++ leB area 4
/-- Compacting, where there is room. -/
def compacted (s : St) (now : List (B × B)) : St :=
  let s1 := write s ⟨1, 1 - s.area, []⟩
  let s2 := write s1 ⟨0, 1 - s.area, record 1 s.commits (values now)⟩
  let s3 := write { s2 with side := 1 - s.side } ⟨2, 1 - s.side, part (s.gen + 1) (1 - s.area) ++ part (s.gen + 1) (1 - s.area)⟩
  { s3 with gen := s.gen + 1, area := 1 - s.area }
def compactOk (s : St) (now : List (B × B)) : Bool :=
  decide ((record 1 s.commits (values now)).length ≤ 4194304 ∧ s.gen ≠ latest ∧ (record 1 s.commits (values now)).length + 24 ≤ 16777216 - s.logged)
def compact (s : St) (now : List (B × B)) : St × Int := if compactOk s now then (compacted s now, 0) else (s, 9)
def committed (s : St) : St :=
  let s1 := write s ⟨0, s.area, record 0 (s.commits + 1) s.changes⟩
  { s1 with commits := s.commits + 1, opn := false, changes := [], was := [] }
def fits (s : St) (b : B) : Bool := decide ((s.disk.area s.area).length + b.length ≤ 4194304)
def commitEnd (s : St) : St × Int × Int :=
  if fits s (record 0 (s.commits + 1) s.changes) && decide ((record 0 (s.commits + 1) s.changes).length ≤ 16777216 - s.logged) then (committed s, s.commits + 1, 0) else (s, 0, 9)
def commit (s : St) : St × Int × Int :=
  if s.opn = false then (s, 0, 6) else if s.spoilt then (s, 0, 9)
  else if fits s (record 0 (s.commits + 1) s.changes) then commitEnd s
  else if compactOk s s.was then commitEnd (compacted s s.was) else (s, 0, 9)
def foldDone (m : Img) (l : List Wr) : Img := l.foldl (fun m w => done m w w.bs.length) m
/-- What is on the disk if the power fails. -/
def cut (s : St) (writes torn : Int) : Option Img :=
  if writes < 0 ∨ (s.writes.length : Int) < writes ∨ torn < 0 then none
  else match s.writes[writes.toNat]? with
    | none => if torn = 0 then some (foldDone s.base s.writes) else none
    | some w => if (w.bs.length : Int) < torn then none else
        let m := foldDone s.base (s.writes.take writes.toNat)
        some (if torn = 0 then m else done m w torn.toNat)

/-- The generation and the area of a head that is valid. -/
def valid (b : B) : Option (Nat × Nat) :=
  if b.length = 24 ∧ b.take 12 = b.drop 12 ∧ leV ((b.take 12).drop 8) ≤ 1 ∧ leV (b.take 8) ≤ latest then some (leV (b.take 8), leV ((b.take 12).drop 8)) else none
/-- One change at the beginning of bytes, and what is behind it. -/
def chgOf (b : B) : Option (Chg × B) :=
  if b.length < 3 ∨ 1 < (b.headD 0).toNat then none
  else
    let n := leV ((b.take 3).drop 1)
    let r := b.drop 3
    if n = 0 ∨ 300 < n ∨ r.length < n then none
    else if b.headD 0 = 0 then some (⟨r.take n, [], true⟩, r.drop n)
    else
      let q := r.drop n
      if q.length < 4 ∨ 8192 < leV (q.take 4) ∨ q.length - 4 < leV (q.take 4) then none
      else some (⟨r.take n, (q.drop 4).take (leV (q.take 4)), false⟩, q.drop (4 + leV (q.take 4)))
theorem chgOf_less {b : B} {c : Chg} {r : B} (h : chgOf b = some (c, r)) : r.length < b.length := by
  unfold chgOf at h
  split at h
  · cases h
  · dsimp only at h
    split at h
    · cases h
    · split at h
      · injection h with h; injection h with _ h; subst h; simp; omega
      · split at h
        · cases h
        · injection h with h; injection h with _ h; subst h; simp; omega
/-- The changes of a record. -/
def changesOf (b : B) : Option (List Chg) :=
  if b = [] then some [] else
    match h : chgOf b with
    | none => none
    | some (c, r) => (changesOf r).map (c :: ·)
termination_by b.length
decreasing_by exact chgOf_less h
/-- The changes are made, one by one; a removal of nothing is an error. -/
def applyAll : List (B × B) → List Chg → Option (List (B × B))
  | m, [] => some m
  | m, c :: t => if c.gone then (if look m c.key = none then none else applyAll (del m c.key) t) else applyAll (ins m c.key c.val) t
/-- What a record at the beginning of bytes does. -/
inductive Took where
  | stop
  | bad (e : Int)
  | took (n commits : Nat) (now : List (B × B))
def take (gen commits : Nat) (now : List (B × B)) (b : B) (first : Bool) : Took :=
  if b.length < 9 ∨ b.length - 13 < leV ((b.take 9).drop 5) ∨ b.length < 13 then .stop
  else
    let n := 9 + leV ((b.take 9).drop 5)
    if chk (b.take n) ≠ leV ((b.drop n).take 4) then .bad 16
    else
      let number := leV ((b.take 5).drop 1)
      let ok := if first = true ∧ 0 < gen then b.headD 0 = 1 else b.headD 0 = 0 ∧ number = commits + 1
      match changesOf ((b.take n).drop 9) with
      | none => .bad 4
      | some l => if ¬ ok then .bad 4 else match applyAll now l with
        | none => .bad 4
        | some now' => .took (n + 4) number now'
/-- The records of an area are taken in, from a place on. -/
def takeAll (gen : Nat) (b : B) : Nat → Nat → Nat → List (B × B) → Except Int (Nat × Nat × List (B × B))
  | 0, at_, commits, now => .ok (at_, commits, now)
  | fuel + 1, at_, commits, now =>
    match take gen commits now (b.drop at_) (at_ == 0) with
    | .stop => .ok (at_, commits, now)
    | .bad e => .error e
    | .took n commits' now' => takeAll gen b fuel (at_ + n) commits' now'
/-- The current head: generation, area, side. -/
def current (h0 h1 : B) : Nat × Nat × Nat :=
  match valid h0, valid h1 with
  | none, none => (0, 0, 1)
  | some (g, a), none => (g, a, 0)
  | none, some (g, a) => (g, a, 1)
  | some (g, a), some (g', a') => if g < g' then (g', a', 1) else (g, a, 0)
def recover (m : Img) : Except Int St :=
  if 8388608 < max m.a0.length m.a1.length then .error 3
  else
    let c := current m.h0 m.h1
    let b := m.area c.2.1
    match takeAll c.1 b (b.length + 1) 0 0 [] with
    | .error e => .error e
    | .ok (at_, commits, now) =>
      let base := { (m.setArea c.2.1 (b.take at_)) with h0 := if valid m.h0 = none then [] else m.h0, h1 := if valid m.h1 = none then [] else m.h1 }
      .ok ⟨false, now, [], 0, false, [], commits, c.1, c.2.1, c.2.2, base, base, [], 0⟩
end J
end Go.Proofs.YtjbepnkchoaipaaGreat
/- Plain facts on lists of pairs that ascend by key. -/
namespace Go.Proofs.YtjbepnkchoaipaaGreat
namespace J
/-- The keys ascend. -/
def Asc (m : List (B × B)) : Prop := m.Pairwise fun a b => a.1 < b.1
theorem lt_irrefl (a : B) : ¬ a < a := List.lt_irrefl a
theorem lt_of (a b : B) (h1 : ¬ a < b) (h2 : a ≠ b) : b < a := by
  rcases Classical.em (b < a) with h | h
  · exact h
  · exact absurd (List.le_antisymm (List.not_lt.1 h) (List.not_lt.1 h1)) h2
theorem look_none_iff : ∀ (m : List (B × B)) (k : B), look m k = none ↔ ∀ p ∈ m, p.1 ≠ k
  | [], k => by simp [look]
  | p :: t, k => by
    have ih := look_none_iff t k
    unfold look
    by_cases h : p.1 = k
    · simp [h]
    · simp [h, ih]
theorem look_some_mem : ∀ (m : List (B × B)) (k v : B), look m k = some v → (k, v) ∈ m
  | [], k, v, h => by simp [look] at h
  | p :: t, k, v, h => by
    unfold look at h
    by_cases e : p.1 = k
    · rw [if_pos e] at h; injection h with h; subst e h; exact List.mem_cons_self
    · rw [if_neg e] at h; exact List.mem_cons_of_mem _ (look_some_mem t k v h)
theorem look_of_mem : ∀ (m : List (B × B)) (k v : B), Asc m → (k, v) ∈ m → look m k = some v
  | [], _, _, _, h => by simp at h
  | p :: t, k, v, ha, h => by
    have ha' := List.pairwise_cons.1 ha
    unfold look
    rcases List.mem_cons.1 h with h | h
    · subst h; simp
    · have := ha'.1 _ h
      have hne : p.1 ≠ k := by intro e; rw [e] at this; exact lt_irrefl _ this
      rw [if_neg hne]; exact look_of_mem t k v ha'.2 h
theorem look_app (a b : List (B × B)) (k : B) : look (a ++ b) k = (look a k).or (look b k) := by
  induction a with
  | nil => simp [look]
  | cons p t ih =>
    simp only [List.cons_append, look]
    by_cases h : p.1 = k
    · simp [h]
    · simp [h, ih]
theorem look_filter (m : List (B × B)) (k k' : B) : look (del m k) k' = if k' = k then none else look m k' := by
  induction m with
  | nil => simp [del, look]
  | cons p t ih =>
    unfold del at *
    rw [List.filter_cons]
    by_cases h : p.1 = k
    · rw [if_neg (by simp [h]), ih]
      by_cases h2 : k' = k
      · simp [h2]
      · simp only [if_neg h2, look]; rw [if_neg (by rw [h]; exact fun e => h2 e.symm)]
    · rw [if_pos (by simp [h])]
      simp only [look, ih]
      by_cases h2 : k' = k
      · subst h2; simp [h]
      · simp [h2]
theorem asc_del {m : List (B × B)} (h : Asc m) (k : B) : Asc (del m k) := List.Pairwise.filter _ h
theorem takeDrop (m : List (B × B)) (k : B) : m.takeWhile (fun p => decide (p.1 < k)) ++ m.dropWhile (fun p => decide (p.1 < k)) = m := List.takeWhile_append_dropWhile
theorem look_ins (m : List (B × B)) (k v k' : B) : look (ins m k v) k' = if k' = k then some v else look m k' := by
  unfold ins
  rw [look_app]
  have hd : look (del m k) k = none := by rw [look_filter, if_pos rfl]
  have hsplit := takeDrop (del m k) k
  have hor : (look ((del m k).takeWhile fun p => decide (p.1 < k)) k').or (look ((del m k).dropWhile fun p => decide (p.1 < k)) k') = look (del m k) k' := by rw [← look_app, hsplit]
  by_cases h : k' = k
  · subst h
    rw [if_pos rfl]
    have h1 : look ((del m k').takeWhile fun p => decide (p.1 < k')) k' = none := by
      rw [hd] at hor
      cases hq : look ((del m k').takeWhile fun p => decide (p.1 < k')) k' with
      | none => rfl
      | some x => rw [hq] at hor; simp at hor
    rw [h1]; simp [look]
  · rw [if_neg h]
    simp only [look]
    rw [if_neg (by exact fun e => h e.symm), hor, look_filter, if_neg h]
theorem asc_ins {m : List (B × B)} (h : Asc m) (k v : B) : Asc (ins m k v) := by
  have hd := asc_del h k
  unfold ins Asc
  have hs := takeDrop (del m k) k
  have hP : (((del m k).takeWhile fun p => decide (p.1 < k)) ++ ((del m k).dropWhile fun p => decide (p.1 < k))).Pairwise fun a b => a.1 < b.1 := by rw [hs]; exact hd
  rw [List.pairwise_append] at hP ⊢
  obtain ⟨h1, h2, h3⟩ := hP
  have hT : ∀ a ∈ (del m k).takeWhile (fun p => decide (p.1 < k)), a.1 < k := by
    intro a ha
    have := List.all_eq_true.1 (List.all_takeWhile (p := fun p : B × B => decide (p.1 < k)) (l := del m k)) a ha
    simpa using this
  have hD : ∀ a ∈ (del m k).dropWhile (fun p => decide (p.1 < k)), k < a.1 := by
    intro a ha
    have hne : a.1 ≠ k := by
      have hm : a ∈ del m k := by rw [← hs]; exact List.mem_append_right _ ha
      unfold del at hm
      have := (List.mem_filter.1 hm).2
      simpa using this
    cases hq : (del m k).dropWhile (fun p => decide (p.1 < k)) with
    | nil => rw [hq] at ha; simp at ha
    | cons x t =>
      have hx : ¬ x.1 < k := by
        have := List.head_dropWhile_not (p := fun p : B × B => decide (p.1 < k)) (l := del m k) (by rw [hq]; simp)
        simp only [hq, List.head_cons] at this
        simpa using this
      have hxk : k ≤ x.1 := List.not_lt.1 hx
      rw [hq] at ha h2
      rcases List.mem_cons.1 ha with e | e
      · subst e
        exact lt_of _ _ hx hne
      · exact List.lt_of_le_of_lt hxk ((List.pairwise_cons.1 h2).1 a e)
  refine ⟨h1, List.pairwise_cons.2 ⟨fun a ha => hD a ha, h2⟩, fun a ha b hb => ?_⟩
  rcases List.mem_cons.1 hb with e | e
  · subst e; exact hT a ha
  · exact h3 a ha b e
theorem asc_nil : Asc [] := List.Pairwise.nil
/-- Two lists that ascend and have the same pairs are one. -/
theorem asc_ext {a b : List (B × B)} (ha : Asc a) (hb : Asc b) (h : ∀ k, look a k = look b k) : a = b := by
  refine List.Perm.eq_of_pairwise (le := fun (x y : B × B) => x.1 < y.1) ?_ ha hb ?_
  · intro x y _ _ h1 h2
    exact absurd (List.lt_trans h1 h2) (lt_irrefl _)
  have nd : ∀ {m : List (B × B)}, Asc m → m.Nodup := fun hm => List.Pairwise.imp (fun {x y} hxy e => by subst e; exact lt_irrefl _ hxy) hm
  refine (List.perm_ext_iff_of_nodup (nd ha) (nd hb)).2 fun p => ?_
  constructor
  · intro hp; exact look_some_mem _ _ _ (by rw [← h]; exact look_of_mem _ _ _ ha hp)
  · intro hp; exact look_some_mem _ _ _ (by rw [h]; exact look_of_mem _ _ _ hb hp)
theorem len_del (m : List (B × B)) (k : B) : (del m k).length ≤ m.length := List.length_filter_le _ _
theorem len_ins (m : List (B × B)) (k v : B) : (ins m k v).length = (del m k).length + 1 := by
  have := congrArg List.length (takeDrop (del m k) k)
  rw [List.length_append] at this
  unfold ins; rw [List.length_append, List.length_cons]; omega
theorem del_of_none {m : List (B × B)} {k : B} (h : look m k = none) : del m k = m := by
  unfold del
  rw [List.filter_eq_self]
  intro p hp
  have := (look_none_iff m k).1 h p hp
  simpa using this
end J
end Go.Proofs.YtjbepnkchoaipaaGreat
/- Small numbers: what the encodings are long. -/
namespace Go.Proofs.YtjbepnkchoaipaaGreat.J
theorem enc_len (c : Chg) : c.enc.length = c.len := by
  unfold Chg.enc Chg.len
  cases c.gone <;> simp [leB_len] <;> omega
theorem encs_cons (c : Chg) (L : List Chg) : (encs (c :: L)).length = c.len + (encs L).length := by simp [encs, enc_len]
theorem encs_app (L L' : List Chg) : (encs (L ++ L')).length = (encs L).length + (encs L').length := by simp [encs]
theorem values_cons (p : B × B) (m : List (B × B)) : values (p :: m) = ⟨p.1, p.2, false⟩ :: values m := rfl
theorem values_app (m m' : List (B × B)) : values (m ++ m') = values m ++ values m' := by simp [values]
theorem encs_filter (f : B × B → Bool) (m : List (B × B)) : (encs (values (m.filter f))).length ≤ (encs (values m)).length := by
  induction m with
  | nil => exact Nat.le_refl _
  | cons p t ih =>
    rw [List.filter_cons, values_cons, encs_cons]
    split
    · rw [values_cons, encs_cons]; omega
    · omega
theorem encs_del (m : List (B × B)) (k : B) : (encs (values (del m k))).length ≤ (encs (values m)).length := encs_filter _ m
theorem encs_ins (m : List (B × B)) (k v : B) : (encs (values (ins m k v))).length ≤ (encs (values m)).length + (7 + k.length + v.length) := by
  have h := encs_del m k
  unfold ins
  have e : (encs (values (del m k))).length = (encs (values ((del m k).takeWhile (fun p => decide (p.1 < k))))).length + (encs (values ((del m k).dropWhile (fun p => decide (p.1 < k))))).length := by
    rw [← encs_app, ← values_app, List.takeWhile_append_dropWhile]
  rw [values_app, encs_app, values_cons, encs_cons]
  simp only [Chg.len]
  simp
  omega
theorem values_len (m : List (B × B)) : m.length ≤ (encs (values m)).length := by
  induction m with
  | nil => exact Nat.le_refl _
  | cons p t ih =>
    rw [values_cons, encs_cons, List.length_cons]
    simp only [Chg.len]; omega
theorem chs_len (L : List Chg) : 3 * L.length ≤ (encs L).length := by
  induction L with
  | nil => exact Nat.le_refl _
  | cons c t ih => rw [encs_cons, List.length_cons]; simp only [Chg.len]; omega
end Go.Proofs.YtjbepnkchoaipaaGreat.J
/- What was written is read back: changes, records, areas. Plain lists. -/
namespace Go.Proofs.YtjbepnkchoaipaaGreat
namespace J
/-- A change that may stand in a record. -/
structure Chg.Fit (c : Chg) : Prop where
  k0 : c.key ≠ []
  k : c.key.length ≤ 300
  v : c.val.length ≤ 8192
  g : c.gone = true → c.val = []
theorem leV_take_leB (n k : Nat) (r : B) (h : n < 256 ^ k) : leV ((leB n k ++ r).take k) = n := by
  rw [List.take_left' (leB_len k n), leV_leB, Nat.mod_eq_of_lt h]
theorem chgOf_enc (c : Chg) (h : c.Fit) (r : B) : chgOf (c.enc ++ r) = some (c, r) := by
  obtain ⟨key, val, gone⟩ := c
  have k0 := h.k0
  have k1 := h.k
  have v1 := h.v
  have g1 := h.g
  simp only at k0 k1 v1 g1
  have hk : key.length ≠ 0 := fun e => k0 (List.eq_nil_of_length_eq_zero e)
  have hn : ∀ (x : UInt8) (t : B), leV (((x :: (leB key.length 2 ++ (key ++ t)) : B).take 3).drop 1) = key.length := by
    intro x t
    show leV ((leB key.length 2 ++ (key ++ t)).take 2) = _
    exact leV_take_leB _ _ _ (by omega)
  have hd : ∀ (x : UInt8) (t : B), (x :: (leB key.length 2 ++ (key ++ t)) : B).drop 3 = key ++ t := by
    intro x t
    show (leB key.length 2 ++ (key ++ t)).drop 2 = _
    exact List.drop_left' (leB_len 2 _)
  have hl : ∀ (x : UInt8) (t : B), (x :: (leB key.length 2 ++ (key ++ t)) : B).length = 3 + (key.length + t.length) := by
    intro x t; simp [leB_len]; omega
  cases gone with
  | true =>
    obtain rfl := g1 rfl
    have e : Chg.enc ⟨key, [], true⟩ ++ r = 0 :: (leB key.length 2 ++ (key ++ r)) := by simp [Chg.enc]
    rw [e]
    unfold chgOf
    rw [if_neg (by rw [hl]; simp <;> omega)]
    dsimp only
    rw [hn, hd, if_neg (by rw [List.length_append]; omega), if_pos (show ((0 :: (leB key.length 2 ++ (key ++ r)) : B).headD 0 = 0) from rfl), List.take_left' rfl, List.drop_left' rfl]
  | false =>
    have e : Chg.enc ⟨key, val, false⟩ ++ r = 1 :: (leB key.length 2 ++ (key ++ (leB val.length 4 ++ (val ++ r)))) := by simp [Chg.enc]
    rw [e]
    unfold chgOf
    rw [if_neg (by rw [hl]; simp <;> omega)]
    dsimp only
    have hv : leV ((leB val.length 4 ++ (val ++ r)).take 4) = val.length := leV_take_leB _ _ _ (by omega)
    rw [hn, hd, if_neg (by rw [List.length_append]; omega), if_neg (by simp), List.take_left' rfl, List.drop_left' rfl, hv]
    rw [if_neg (by rw [List.length_append, leB_len, List.length_append]; omega), List.drop_left' (leB_len 4 _), List.take_left' rfl, ← List.drop_drop, List.drop_left' (leB_len 4 _), List.drop_left' rfl]
theorem encs_nil : encs [] = [] := rfl
theorem encs_cons_eq (c : Chg) (L : List Chg) : encs (c :: L) = c.enc ++ encs L := rfl
theorem enc_ne (c : Chg) (r : B) : c.enc ++ r ≠ [] := by
  intro e
  have := congrArg List.length e
  rw [List.length_append, enc_len] at this
  simp [Chg.len] at this
theorem changesOf_encs : ∀ (L : List Chg), (∀ c ∈ L, c.Fit) → changesOf (encs L) = some L
  | [], _ => by rw [encs_nil]; unfold changesOf; simp
  | c :: L, h => by
    have ih := changesOf_encs L (fun c hc => h c (List.mem_cons_of_mem _ hc))
    rw [encs_cons_eq]
    unfold changesOf
    rw [if_neg (enc_ne c _)]
    have he := chgOf_enc c (h c List.mem_cons_self) (encs L)
    split
    · rename_i hn; rw [he] at hn; cases hn
    · rename_i c' r hs
      rw [he] at hs; injection hs with hs; injection hs with h1 h2
      subst h1 h2
      rw [ih]; rfl
theorem body_len (kind number : Nat) (L : List Chg) : (body kind number L).length = 9 + (encs L).length := by simp [body, leB_len]; omega
theorem record_len (kind number : Nat) (L : List Chg) : (record kind number L).length = 13 + (encs L).length := by
  rw [record, List.length_append, body_len, leB_len]; omega
/-- What stands where in a record. -/
theorem body_parts (kind number : Nat) (L : List Chg) (r : B) (hn : number < 4294967296) (hl : (encs L).length < 4294967296) :
    (body kind number L ++ r).headD 0 = UInt8.ofNat kind ∧ leV (((body kind number L ++ r).take 5).drop 1) = number ∧ leV (((body kind number L ++ r).take 9).drop 5) = (encs L).length ∧ ((body kind number L ++ r).take (9 + (encs L).length)).drop 9 = encs L := by
  have e : body kind number L ++ r = UInt8.ofNat kind :: (leB number 4 ++ (leB (encs L).length 4 ++ (encs L ++ r))) := by simp [body]
  refine ⟨by rw [e]; rfl, ?_, ?_, ?_⟩
  · rw [e]
    show leV ((leB number 4 ++ _).take 4) = _
    exact leV_take_leB _ _ _ (by omega)
  · rw [e]
    show leV (((leB number 4 ++ (leB (encs L).length 4 ++ (encs L ++ r))).take 8).drop 4) = _
    rw [List.drop_take, List.drop_left' (leB_len 4 _)]
    exact leV_take_leB _ _ _ (by omega)
  · rw [List.take_left' (body_len kind number L)]
    unfold body
    show ((leB number 4 ++ leB (encs L).length 4) ++ encs L).drop 8 = _
    exact List.drop_left' (by simp [leB_len])
/-- What a whole record does. -/
theorem take_record (gen commits : Nat) (now : List (B × B)) (kind number : Nat) (L : List Chg) (r : B) (first : Bool) (hn : number < 4294967296) (hl : (encs L).length < 4294967296) (hL : ∀ c ∈ L, c.Fit) (hk : if first = true ∧ 0 < gen then kind = 1 else kind = 0 ∧ number = commits + 1) (now' : List (B × B)) (ha : applyAll now L = some now') :
    take gen commits now (record kind number L ++ r) first = .took (record kind number L).length number now' := by
  have hr : record kind number L ++ r = body kind number L ++ (leB (chk (body kind number L)) 4 ++ r) := by simp [record]
  obtain ⟨h1, h2, h3, h4⟩ := body_parts kind number L (leB (chk (body kind number L)) 4 ++ r) hn hl
  have hlen : (record kind number L ++ r).length = 13 + (encs L).length + r.length := by rw [List.length_append, record_len]
  have hc := chk_lt (body kind number L)
  unfold take
  rw [if_neg (by rw [hlen, hr, h3]; omega)]
  dsimp only
  rw [hr, h3, h4, h2, h1]
  rw [List.take_left' (body_len kind number L), List.drop_left' (body_len kind number L), leV_take_leB _ _ _ (by omega), if_neg (by simp), changesOf_encs L hL]
  dsimp only
  rw [ha]
  have hok : (if first = true ∧ 0 < gen then UInt8.ofNat kind = 1 else UInt8.ofNat kind = 0 ∧ number = commits + 1) := by
    split at hk
    · rename_i h; rw [if_pos h, hk]; rfl
    · rename_i h; rw [if_neg h, hk.1]; exact ⟨rfl, hk.2⟩
  rw [if_neg (not_not_intro hok), record_len]
  show Took.took (9 + (encs L).length + 4) number now' = _
  congr 1; omega
/-- A record of which not all bytes are there. -/
theorem take_torn (gen commits : Nat) (now : List (B × B)) (kind number : Nat) (L : List Chg) (t : Nat) (first : Bool) (hn : number < 4294967296) (hl : (encs L).length < 4294967296) (ht : t < (record kind number L).length) :
    take gen commits now ((record kind number L).take t) first = .stop := by
  rw [record_len] at ht
  have hlen : ((record kind number L).take t).length = t := by rw [List.length_take, record_len]; omega
  unfold take
  rw [if_pos]
  rw [hlen]
  by_cases h9 : t < 9
  · exact .inl h9
  · obtain ⟨h1, h2, h3, h4⟩ := body_parts kind number L (leB (chk (body kind number L)) 4) hn hl
    have e : ((record kind number L).take t).take 9 = (record kind number L).take 9 := by rw [List.take_take, Nat.min_eq_left (by omega)]
    rw [e]
    have h3' : leV (((record kind number L).take 9).drop 5) = (encs L).length := h3
    rw [h3']
    omega
theorem take_nil (gen commits : Nat) (now : List (B × B)) (first : Bool) : take gen commits now [] first = .stop := by
  unfold take; rw [if_pos (.inl (by simp))]
/-- What a record does, in other words. -/
theorem take_took {gen commits : Nat} {now : List (B × B)} {b : B} {first : Bool} {n c' : Nat} {now' : List (B × B)} : take gen commits now b first = .took n c' now' ↔
    ¬ (b.length < 9 ∨ b.length - 13 < leV ((b.take 9).drop 5) ∨ b.length < 13) ∧ chk (b.take (9 + leV ((b.take 9).drop 5))) = leV ((b.drop (9 + leV ((b.take 9).drop 5))).take 4) ∧
    (∃ L, changesOf ((b.take (9 + leV ((b.take 9).drop 5))).drop 9) = some L ∧ (if first = true ∧ 0 < gen then b.headD 0 = 1 else b.headD 0 = 0 ∧ leV ((b.take 5).drop 1) = commits + 1) ∧ applyAll now L = some now') ∧
    n = 9 + leV ((b.take 9).drop 5) + 4 ∧ c' = leV ((b.take 5).drop 1) := by
  unfold take
  by_cases h1 : b.length < 9 ∨ b.length - 13 < leV ((b.take 9).drop 5) ∨ b.length < 13
  · rw [if_pos h1]
    constructor
    · intro h; cases h
    · intro h; exact absurd h1 h.1
  rw [if_neg h1]
  dsimp only
  by_cases h2 : chk (b.take (9 + leV ((b.take 9).drop 5))) = leV ((b.drop (9 + leV ((b.take 9).drop 5))).take 4)
  · rw [if_neg (not_not_intro h2)]
    cases hL : changesOf ((b.take (9 + leV ((b.take 9).drop 5))).drop 9) with
    | none =>
      dsimp only
      constructor
      · intro h; cases h
      · rintro ⟨_, _, ⟨L, h, _⟩, _⟩; cases h
    | some L =>
      dsimp only
      by_cases h3 : (if first = true ∧ 0 < gen then b.headD 0 = 1 else b.headD 0 = 0 ∧ leV ((b.take 5).drop 1) = commits + 1)
      · rw [if_neg (not_not_intro h3)]
        cases hA : applyAll now L with
        | none =>
          dsimp only
          constructor
          · intro h; cases h
          · rintro ⟨_, _, ⟨L', h, _, h'⟩, _⟩; injection h with h; subst h; rw [hA] at h'; cases h'
        | some m =>
          dsimp only
          constructor
          · intro h; injection h with e1 e2 e3; subst e1 e2 e3; exact ⟨h1, h2, ⟨L, rfl, h3, hA⟩, rfl, rfl⟩
          · rintro ⟨_, _, ⟨L', h, _, h'⟩, rfl, rfl⟩; injection h with h; subst h; rw [hA] at h'; injection h' with h'; rw [h']
      · rw [if_pos h3]
        constructor
        · intro h; cases h
        · rintro ⟨_, _, ⟨L', h, h', _⟩, _⟩; exact absurd h' h3
  · rw [if_pos h2]
    constructor
    · intro h; cases h
    · intro h; exact absurd h.2.1 h2
/-- What a record does depends on its bytes alone. -/
theorem take_ext {gen commits : Nat} {now : List (B × B)} {b b' : B} {first : Bool} {n c' : Nat} {now' : List (B × B)} (h : take gen commits now b first = .took n c' now') (hb : b'.take n = b.take n) : take gen commits now b' first = .took n c' now' ∧ 13 ≤ n ∧ n ≤ b.length := by
  obtain ⟨h0, hs, hL, hn, hc⟩ := take_took.1 h
  generalize hlen : leV ((b.take 9).drop 5) = len at *
  have hbl : n ≤ b.length := by omega
  have hbl' : n ≤ b'.length := by
    have := congrArg List.length hb
    rw [List.length_take, List.length_take] at this; omega
  have hcut : ∀ k, k ≤ n → b'.take k = b.take k := by
    intro k hk
    have := congrArg (List.take k) hb
    rwa [List.take_take, List.take_take, Nat.min_eq_left hk] at this
  have hcut2 : (b'.drop (9 + len)).take 4 = (b.drop (9 + len)).take 4 := by
    have h5 : ∀ (x : B), (x.drop (9 + len)).take 4 = (x.take (9 + len + 4)).drop (9 + len) := fun x => by rw [List.drop_take]; congr 1; omega
    rw [h5, h5, hcut _ (by omega)]
  have hhead : b'.headD 0 = b.headD 0 := by
    have := hcut 1 (by omega)
    cases b with
    | nil => simp at hbl; omega
    | cons x t => cases b' with
      | nil => simp at hbl'; omega
      | cons y t' => simpa using this
  refine ⟨take_took.2 ?_, by omega, hbl⟩
  rw [hcut 9 (by omega), hlen, hcut (9 + len) (by omega), hcut2, hcut 5 (by omega), hhead]
  exact ⟨by omega, hs, hL, hn, hc⟩
end J
end Go.Proofs.YtjbepnkchoaipaaGreat
/- What a disk holds: the records of its area, and what is recovered from it. Plain lists. -/
namespace Go.Proofs.YtjbepnkchoaipaaGreat
namespace J
/-- The records of an area from a place on to another one are taken in. -/
inductive Reads (gen : Nat) (b : B) : Nat → Nat → List (B × B) → Nat → Nat → List (B × B) → Prop where
  | refl (at_ c : Nat) (now : List (B × B)) : Reads gen b at_ c now at_ c now
  | step {at_ c : Nat} {now : List (B × B)} {n c1 : Nat} {now1 : List (B × B)} {at' c' : Nat} {now' : List (B × B)} (h : take gen c now (b.drop at_) (at_ == 0) = .took n c1 now1) (t : Reads gen b (at_ + n) c1 now1 at' c' now') : Reads gen b at_ c now at' c' now'
theorem Reads.le {gen : Nat} {b : B} {at_ c : Nat} {now : List (B × B)} {at' c' : Nat} {now' : List (B × B)} (h : Reads gen b at_ c now at' c' now') : at_ ≤ at' ∧ (at_ ≤ b.length → at' ≤ b.length) := by
  induction h with
  | refl => exact ⟨Nat.le_refl _, id⟩
  | step h t ih =>
    obtain ⟨_, h1, h2⟩ := take_ext h rfl
    rw [List.length_drop] at h2
    exact ⟨by omega, fun h => ih.2 (by omega)⟩
theorem Reads.trans {gen : Nat} {b : B} {a c a' c' a'' c'' : Nat} {m m' m'' : List (B × B)} (h : Reads gen b a c m a' c' m') (k : Reads gen b a' c' m' a'' c'' m'') : Reads gen b a c m a'' c'' m'' := by
  induction h with
  | refl => exact k
  | step h t ih => exact .step h (ih k)
/-- The same bytes are read in the same way, whatever is behind them. -/
theorem Reads.ext {gen : Nat} {b b' : B} {a c a' c' : Nat} {m m' : List (B × B)} (h : Reads gen b a c m a' c' m') (e : b'.take a' = b.take a') : Reads gen b' a c m a' c' m' := by
  induction h with
  | refl => exact .refl _ _ _
  | @step at_ c now n c1 now1 at' c' now' h t ih =>
    have hle := t.le.1
    have e2 : (b'.drop at_).take n = (b.drop at_).take n := by
      have h5 : ∀ (x : B), (x.drop at_).take n = ((x.take at').take (at_ + n)).drop at_ := fun x => by rw [List.take_take, Nat.min_eq_left hle, List.drop_take]; congr 1; omega
      rw [h5, h5, e]
    exact .step (take_ext h e2).1 (ih e)
/-- Taking in is what is read. -/
theorem takeAll_reads {gen : Nat} {b : B} {a c a' c' : Nat} {m m' : List (B × B)} (h : Reads gen b a c m a' c' m') (hs : take gen c' m' (b.drop a') (a' == 0) = .stop) : ∀ fuel, b.length < a + fuel → a ≤ b.length → takeAll gen b fuel a c m = .ok (a', c', m') := by
  induction h with
  | refl =>
    intro fuel hf _
    cases fuel with
    | zero => rfl
    | succ k => unfold takeAll; rw [hs]
  | @step at_ c now n c1 now1 at' c' now' h t ih =>
    intro fuel hf hle
    obtain ⟨_, h1, h2⟩ := take_ext h rfl
    rw [List.length_drop] at h2
    cases fuel with
    | zero => omega
    | succ k =>
      unfold takeAll
      rw [h]
      exact ih hs k (by omega) (by omega)
theorem reads_takeAll {gen : Nat} {b : B} : ∀ fuel a c m r, takeAll gen b fuel a c m = .ok r → b.length < a + fuel → a ≤ b.length → Reads gen b a c m r.1 r.2.1 r.2.2 ∧ take gen r.2.1 r.2.2 (b.drop r.1) (r.1 == 0) = .stop
  | 0, a, c, m, r, h, hf, hle => by omega
  | k + 1, a, c, m, r, h, hf, hle => by
    unfold takeAll at h
    cases ht : take gen c m (b.drop a) (a == 0) with
    | stop => rw [ht] at h; injection h with h; subst h; exact ⟨.refl _ _ _, ht⟩
    | bad e => rw [ht] at h; cases h
    | took n c1 m1 =>
      rw [ht] at h
      obtain ⟨_, h1, h2⟩ := take_ext ht rfl
      rw [List.length_drop] at h2
      obtain ⟨g1, g2⟩ := reads_takeAll k (a + n) c1 m1 r h (by omega) (by omega)
      exact ⟨.step ht g1, g2⟩
theorem takeAll_bad {gen : Nat} {b : B} {a c a' c' : Nat} {m m' : List (B × B)} {e : Int} (h : Reads gen b a c m a' c' m') (hs : take gen c' m' (b.drop a') (a' == 0) = .bad e) : ∀ fuel, b.length < a + fuel → a ≤ b.length → takeAll gen b fuel a c m = .error e := by
  induction h with
  | refl =>
    intro fuel hf hle
    cases fuel with
    | zero => omega
    | succ k => unfold takeAll; rw [hs]
  | @step at_ c now n c1 now1 at' c' now' h t ih =>
    intro fuel hf hle
    obtain ⟨_, h1, h2⟩ := take_ext h rfl
    rw [List.length_drop] at h2
    cases fuel with
    | zero => omega
    | succ k =>
      unfold takeAll
      rw [h]
      exact ih hs k (by omega) (by omega)

/-- A disk has these contents behind this number of commits. -/
def Img.Has (q : Prop) (m : Img) (gen area : Nat) (commits : Nat) (now : List (B × B)) : Prop :=
  ∃ at_, Reads gen (m.area area) 0 0 [] at_ commits now ∧ take gen commits now ((m.area area).drop at_) (at_ == 0) = .stop ∧ (q → 0 < gen → 0 < at_)
structure Img.Holds (q : Prop) (m : Img) (commits : Nat) (now : List (B × B)) : Prop where
  a0 : m.a0.length ≤ 8388608
  a1 : m.a1.length ≤ 8388608
  has : Img.Has q m (current m.h0 m.h1).1 (current m.h0 m.h1).2.1 commits now
/-- The store that is recovered. -/
def recovered (m : Img) (at_ commits : Nat) (now : List (B × B)) : St :=
  let c := current m.h0 m.h1
  let base := { (m.setArea c.2.1 ((m.area c.2.1).take at_)) with h0 := if valid m.h0 = none then [] else m.h0, h1 := if valid m.h1 = none then [] else m.h1 }
  ⟨false, now, [], 0, false, [], commits, c.1, c.2.1, c.2.2, base, base, [], 0⟩
theorem Img.Holds.recover {q : Prop} {m : Img} {commits : Nat} {now : List (B × B)} (h : Img.Holds q m commits now) : ∃ at_, recover m = .ok (recovered m at_ commits now) ∧ at_ ≤ (m.area (current m.h0 m.h1).2.1).length ∧ Reads (current m.h0 m.h1).1 (m.area (current m.h0 m.h1).2.1) 0 0 [] at_ commits now ∧ (q → 0 < (current m.h0 m.h1).1 → 0 < at_) := by
  obtain ⟨at_, h1, h2, h3⟩ := h.has
  refine ⟨at_, ?_, h1.le.2 (Nat.zero_le _), h1, h3⟩
  unfold J.recover
  have := h.a0
  have := h.a1
  rw [if_neg (by omega)]
  dsimp only
  rw [takeAll_reads h1 h2 _ (by omega) (Nat.zero_le _)]
  rfl
theorem recover_ok {m : Img} {s : St} (h : recover m = .ok s) : ∃ at_ commits now, s = recovered m at_ commits now ∧ Img.Holds False m commits now ∧ at_ ≤ (m.area (current m.h0 m.h1).2.1).length ∧ Reads (current m.h0 m.h1).1 (m.area (current m.h0 m.h1).2.1) 0 0 [] at_ commits now := by
  unfold J.recover at h
  split at h
  · cases h
  · rename_i hb
    dsimp only at h
    split at h
    · cases h
    · rename_i at_ commits now he
      injection h with h
      obtain ⟨h1, h2⟩ := reads_takeAll _ _ _ _ _ he (by omega) (Nat.zero_le _)
      exact ⟨at_, commits, now, h.symm, ⟨by omega, by omega, at_, h1, h2, fun e => e.elim⟩, h1.le.2 (Nat.zero_le _), h1⟩
end J
end Go.Proofs.YtjbepnkchoaipaaGreat
/- What a disk holds while it is written to, byte by byte. Plain lists. -/
namespace Go.Proofs.YtjbepnkchoaipaaGreat
namespace J
/-- The contents are those of records: the keys ascend, and all of them fit. -/
def FitM (m : List (B × B)) : Prop := ∀ p ∈ m, p.1 ≠ [] ∧ p.1.length ≤ 300 ∧ p.2.length ≤ 8192
theorem values_fit {m : List (B × B)} (h : FitM m) : ∀ c ∈ values m, c.Fit := by
  intro c hc
  obtain ⟨p, hp, rfl⟩ := List.mem_map.1 hc
  obtain ⟨h1, h2, h3⟩ := h p hp
  exact ⟨h1, h2, h3, fun e => by cases e⟩
theorem takeWhile_all {f : B × B → Bool} : ∀ {m : List (B × B)}, (∀ p ∈ m, f p = true) → m.takeWhile f = m
  | [], _ => rfl
  | p :: t, h => by rw [List.takeWhile_cons, if_pos (h p List.mem_cons_self), takeWhile_all (fun q hq => h q (List.mem_cons_of_mem _ hq))]
theorem applyAll_cons (m : List (B × B)) (c : Chg) (t : List Chg) : applyAll m (c :: t) = if c.gone then (if look m c.key = none then none else applyAll (del m c.key) t) else applyAll (ins m c.key c.val) t := rfl
theorem ins_last {m : List (B × B)} {k v : B} (h : ∀ p ∈ m, p.1 < k) : ins m k v = m ++ [(k, v)] := by
  have hd : del m k = m := by
    unfold del
    rw [List.filter_eq_self]
    intro p hp
    have hn : p.1 ≠ k := fun e => lt_irrefl k (e ▸ h p hp)
    simpa using hn
  unfold ins
  rw [hd]
  have h1 : m.takeWhile (fun p => decide (p.1 < k)) = m := takeWhile_all (fun p hp => by simpa using h p hp)
  have h2 : m.dropWhile (fun p => decide (p.1 < k)) = [] := by
    have := List.takeWhile_append_dropWhile (p := fun p : B × B => decide (p.1 < k)) (l := m)
    rw [h1] at this
    exact List.append_cancel_left (this.trans (List.append_nil m).symm)
  rw [h1, h2]
theorem applyAll_values : ∀ (m m0 : List (B × B)), Asc (m0 ++ m) → applyAll m0 (values m) = some (m0 ++ m)
  | [], m0, _ => by simp [values, applyAll]
  | p :: t, m0, h => by
    have hlt : ∀ q ∈ m0, q.1 < p.1 := fun q hq => (List.pairwise_append.1 h).2.2 q hq p List.mem_cons_self
    rw [values_cons]
    unfold applyAll
    rw [if_neg (by simp)]
    dsimp only
    rw [ins_last hlt]
    have e : m0 ++ [(p.1, p.2)] ++ t = m0 ++ p :: t := by simp
    rw [applyAll_values t (m0 ++ [(p.1, p.2)]) (by rw [e]; exact h), e]
theorem applyAll_app : ∀ (L L' : List Chg) (m : List (B × B)), applyAll m (L ++ L') = (applyAll m L).bind fun m' => applyAll m' L'
  | [], L', m => rfl
  | c :: L, L', m => by
    rw [List.cons_append, applyAll_cons, applyAll_cons]
    split
    · split
      · rfl
      · exact applyAll_app L L' _
    · exact applyAll_app L L' _
theorem fit_del {m : List (B × B)} (h : FitM m) (k : B) : FitM (del m k) := fun p hp => h p (List.mem_filter.1 hp).1
theorem fit_ins {m : List (B × B)} (h : FitM m) (k v : B) (h0 : k ≠ []) (h1 : k.length ≤ 300) (h2 : v.length ≤ 8192) : FitM (ins m k v) := by
  intro p hp
  unfold ins at hp
  rcases List.mem_append.1 hp with hp | hp
  · exact fit_del h k p (List.takeWhile_subset _ hp)
  · rcases List.mem_cons.1 hp with rfl | hp
    · exact ⟨h0, h1, h2⟩
    · exact fit_del h k p (List.dropWhile_subset _ hp)
theorem fit_nil : FitM [] := fun p hp => by cases hp
theorem fit_applyAll : ∀ (L : List Chg) (m m' : List (B × B)), (∀ c ∈ L, c.Fit) → FitM m → Asc m → applyAll m L = some m' → FitM m' ∧ Asc m'
  | [], m, m', _, h, ha, e => by injection e with e; subst e; exact ⟨h, ha⟩
  | c :: L, m, m', hL, h, ha, e => by
    have hc := hL c List.mem_cons_self
    have hL' : ∀ c ∈ L, c.Fit := fun c hc => hL c (List.mem_cons_of_mem _ hc)
    rw [applyAll_cons] at e
    split at e
    · split at e
      · cases e
      · exact fit_applyAll L _ _ hL' (fit_del h _) (asc_del ha _) e
    · exact fit_applyAll L _ _ hL' (fit_ins h _ _ hc.k0 hc.k hc.v) (asc_ins ha _ _) e
theorem chgOf_fit {b : B} {c : Chg} {r : B} (h : chgOf b = some (c, r)) : c.Fit := by
  unfold chgOf at h
  split at h
  · cases h
  · dsimp only at h
    split at h
    · cases h
    · rename_i hn
      have key : (List.take (leV ((b.take 3).drop 1)) (b.drop 3)) ≠ [] ∧ (List.take (leV ((b.take 3).drop 1)) (b.drop 3)).length ≤ 300 := by
        refine ⟨fun e => ?_, by rw [List.length_take]; omega⟩
        have := congrArg List.length e
        rw [List.length_take] at this
        simp only [List.length_nil] at this
        omega
      split at h
      · injection h with h; injection h with h _; subst h
        exact ⟨key.1, key.2, Nat.zero_le _, fun _ => rfl⟩
      · split at h
        · cases h
        · rename_i hv
          injection h with h; injection h with h _; subst h
          exact ⟨key.1, key.2, by show (List.take _ _).length ≤ 8192; rw [List.length_take]; omega, fun e => by cases e⟩
theorem changesOf_fit : ∀ (n : Nat) (b : B) (L : List Chg), b.length ≤ n → changesOf b = some L → ∀ c ∈ L, c.Fit
  | n, b, L, hn, h => by
    unfold changesOf at h
    split at h
    · injection h with h; subst h; intro c hc; cases hc
    · split at h
      · cases h
      · rename_i c r hs
        cases hq : changesOf r with
        | none => rw [hq] at h; cases h
        | some L' =>
          rw [hq] at h; injection h with h; subst h
          have hl := chgOf_less hs
          cases n with
          | zero => omega
          | succ k =>
            intro c' hc'
            rcases List.mem_cons.1 hc' with rfl | hc'
            · exact chgOf_fit hs
            · exact changesOf_fit k r L' (by omega) hq c' hc'
theorem take_fit {gen commits : Nat} {now : List (B × B)} {b : B} {first : Bool} {n c' : Nat} {now' : List (B × B)} (h : take gen commits now b first = .took n c' now') (hf : FitM now) (ha : Asc now) : FitM now' ∧ Asc now' ∧ c' < 4294967296 := by
  obtain ⟨_, _, ⟨L, hL, _, hap⟩, _, h2⟩ := take_took.1 h
  obtain ⟨g1, g2⟩ := fit_applyAll L _ _ (changesOf_fit _ _ L (Nat.le_refl _) hL) hf ha hap
  refine ⟨g1, g2, ?_⟩
  rw [h2]
  have := leV_lt ((b.take 5).drop 1)
  have hl : ((b.take 5).drop 1).length ≤ 4 := by rw [List.length_drop, List.length_take]; omega
  exact Nat.lt_of_lt_of_le this (Nat.pow_le_pow_right (by omega) hl)
theorem Reads.fit {gen : Nat} {b : B} {a c a' c' : Nat} {m m' : List (B × B)} (h : Reads gen b a c m a' c' m') (hf : FitM m) (ha : Asc m) (hc : c < 4294967296) : FitM m' ∧ Asc m' ∧ c' < 4294967296 := by
  induction h with
  | refl => exact ⟨hf, ha, hc⟩
  | step h t ih => obtain ⟨h1, h2, h3⟩ := take_fit h hf ha; exact ih h1 h2 h3

/-- A head that is empty or valid. -/
def HeadOk (h : B) : Prop := h = [] ∨ valid h ≠ none
/-- The disk d is read whole: generation, area, side, commits and contents. -/
structure DiskOk (q : Prop) (d : Img) (gen area side commits : Nat) (now : List (B × B)) : Prop where
  cur : current d.h0 d.h1 = (gen, area, side)
  ar : area ≤ 1
  h0 : HeadOk d.h0
  h1 : HeadOk d.h1
  full : Reads gen (d.area area) 0 0 [] (d.area area).length commits now
  a0 : d.a0.length ≤ 8388608
  a1 : d.a1.length ≤ 8388608
  g : q → 0 < gen → 0 < (d.area area).length
theorem valid_nil : valid [] = none := rfl
theorem valid_two {h : B} {g a : Nat} (hv : valid h = some (g, a)) : h.length = 24 ∧ h.take 12 = h.drop 12 ∧ a ≤ 1 ∧ g ≤ latest := by
  unfold valid at hv
  split at hv
  · rename_i hc
    injection hv with hv; injection hv with h1 h2
    subst h1 h2
    exact ⟨hc.1, hc.2.1, hc.2.2.1, hc.2.2.2⟩
  · cases hv
theorem current_area (h0 h1 : B) : (current h0 h1).2.1 ≤ 1 ∧ (current h0 h1).1 ≤ latest ∧ (current h0 h1).2.2 ≤ 1 := by
  unfold current
  cases e0 : valid h0 with
  | none => cases e1 : valid h1 with
    | none => exact ⟨Nat.zero_le _, Nat.zero_le _, Nat.le_refl _⟩
    | some p => obtain ⟨g, a⟩ := p; exact ⟨(valid_two e1).2.2.1, (valid_two e1).2.2.2, Nat.le_refl _⟩
  | some q => obtain ⟨g', a'⟩ := q; cases e1 : valid h1 with
    | none => exact ⟨(valid_two e0).2.2.1, (valid_two e0).2.2.2, Nat.zero_le _⟩
    | some p =>
      obtain ⟨g, a⟩ := p
      dsimp only
      split
      · exact ⟨(valid_two e1).2.2.1, (valid_two e1).2.2.2, Nat.le_refl _⟩
      · exact ⟨(valid_two e0).2.2.1, (valid_two e0).2.2.2, Nat.zero_le _⟩
theorem part_len (g a : Nat) : (part g a).length = 12 := by simp [part, leB_len]
theorem valid_part {g a : Nat} (hg : g ≤ latest) (ha : a ≤ 1) : valid (part g a ++ part g a) = some (g, a) := by
  have h12 : (part g a ++ part g a).take 12 = part g a := List.take_left' (part_len g a)
  have h8 : leV ((part g a ++ part g a).take 8) = g := by
    have : part g a ++ part g a = leB g 8 ++ (leB a 4 ++ part g a) := by simp [part]
    rw [this]; exact leV_take_leB _ _ _ (by unfold latest at hg; omega)
  have h4 : leV ((part g a).drop 8) = a := by
    have : (part g a).drop 8 = leB a 4 := by unfold part; exact List.drop_left' (leB_len 8 _)
    rw [this, leV_leB]; omega
  unfold valid
  rw [h12, h8, h4, if_pos]
  refine ⟨by simp [part_len], ?_, ha, hg⟩
  exact (List.drop_left' (part_len g a)).symm
/-- A head of which only some bytes are written is not valid, or the old one, or the new one. -/
theorem torn_head (p old : B) (hp : p.length = 12) (ho : HeadOk old) (t : Nat) (hv : valid ((p ++ p).take t ++ old.drop t) ≠ none) : (p ++ p).take t ++ old.drop t = old ∨ (p ++ p).take t ++ old.drop t = p ++ p := by
  have hlen : ((p ++ p).take t ++ old.drop t).length = 24 ∧ ((p ++ p).take t ++ old.drop t).take 12 = ((p ++ p).take t ++ old.drop t).drop 12 := by
    cases hq : valid ((p ++ p).take t ++ old.drop t) with
    | none => exact absurd hq hv
    | some q => obtain ⟨g, a⟩ := q; exact ⟨(valid_two hq).1, (valid_two hq).2.1⟩
  by_cases h24 : 24 ≤ t
  · right
    have h1 : (p ++ p).take t = p ++ p := List.take_of_length_le (by simp; omega)
    rw [h1] at hlen ⊢
    have h2 : (old.drop t) = [] := by
      have := hlen.1
      rw [List.length_append, List.length_append] at this
      exact List.eq_nil_of_length_eq_zero (by omega)
    rw [h2, List.append_nil]
  rcases ho with rfl | ho
  · exfalso
    have := hlen.1
    simp at this; omega
  · obtain ⟨⟨g, a⟩, hq⟩ := Option.ne_none_iff_exists'.1 ho
    obtain ⟨ol, o2, _, _⟩ := valid_two hq
    have hos : old = old.take 12 ++ old.take 12 := by
      conv => lhs; rw [← List.take_append_drop 12 old]
      rw [← o2]
    generalize hqq : old.take 12 = q at hos
    have hql : q.length = 12 := by rw [← hqq, List.length_take]; omega
    subst hos
    by_cases ht : t ≤ 12
    · left
      have e1 : (p ++ p).take t = p.take t := by rw [List.take_append_of_le_length (by omega)]
      have e2 : (q ++ q).drop t = q.drop t ++ q := by rw [List.drop_append_of_le_length (by omega)]
      rw [e1, e2, ← List.append_assoc] at hlen ⊢
      have hl : (p.take t ++ q.drop t).length = 12 := by simp; omega
      have h2 := hlen.2
      rw [List.take_left' hl, List.drop_left' hl] at h2
      rw [h2]
    · right
      have e1 : (p ++ p).take t = p ++ p.take (t - 12) := by rw [List.take_append, List.take_of_length_le (by omega), hp]
      have e2 : (q ++ q).drop t = q.drop (t - 12) := by rw [List.drop_append, List.drop_of_length_le (by omega), hql, List.nil_append]
      rw [e1, e2, List.append_assoc] at hlen ⊢
      have h2 := hlen.2
      rw [List.take_left' hp, List.drop_left' hp] at h2
      rw [← h2]
end J
end Go.Proofs.YtjbepnkchoaipaaGreat
/- The writes of commits and of compacting, cut anywhere. Plain lists. -/
namespace Go.Proofs.YtjbepnkchoaipaaGreat
namespace J
section
variable {q : Prop} {d : Img} {gen area side commits : Nat} {now : List (B × B)}
theorem area_set (m : Img) (i : Nat) (b : B) : (m.setArea i b).area i = b := by unfold Img.setArea Img.area; split <;> rfl
theorem area_set_ne (m : Img) (i j : Nat) (b : B) (h : (i = 0) ≠ (j = 0)) : (m.setArea i b).area j = m.area j := by
  unfold Img.setArea Img.area
  by_cases hi : i = 0 <;> by_cases hj : j = 0 <;> simp_all
theorem set_h0 (m : Img) (i : Nat) (b : B) : (m.setArea i b).h0 = m.h0 := by unfold Img.setArea; split <;> rfl
theorem set_h1 (m : Img) (i : Nat) (b : B) : (m.setArea i b).h1 = m.h1 := by unfold Img.setArea; split <;> rfl
theorem set_a0 (m : Img) (i : Nat) (b : B) (n : Nat) (h : m.a0.length ≤ n) (hb : b.length ≤ n) : (m.setArea i b).a0.length ≤ n := by unfold Img.setArea; split <;> assumption
theorem set_a1 (m : Img) (i : Nat) (b : B) (n : Nat) (h : m.a1.length ≤ n) (hb : b.length ≤ n) : (m.setArea i b).a1.length ≤ n := by unfold Img.setArea; split <;> assumption
theorem head_a0 (m : Img) (i : Nat) (b : B) : (m.setHead i b).a0 = m.a0 := by unfold Img.setHead; split <;> rfl
theorem head_a1 (m : Img) (i : Nat) (b : B) : (m.setHead i b).a1 = m.a1 := by unfold Img.setHead; split <;> rfl
theorem head_area (m : Img) (i j : Nat) (b : B) : (m.setHead i b).area j = m.area j := by unfold Img.area; rw [head_a0, head_a1]
theorem head_self (m : Img) (i : Nat) : m.setHead i (m.head i) = m := by unfold Img.setHead Img.head; split <;> rfl
theorem DiskOk.holds (h : DiskOk q d gen area side commits now) : Img.Holds q d commits now :=
  ⟨h.a0, h.a1, by rw [h.cur]; exact ⟨_, h.full, by rw [List.drop_length]; exact take_nil _ _ _ _, h.g⟩⟩
/-- A record of which only some bytes are written is as if it were not there. -/
theorem DiskOk.torn (h : DiskOk q d gen area side commits now) (L : List Chg) (hc : commits + 1 < 4294967296) (hl : (encs L).length < 4294967296) (hs : (d.area area).length + (record 0 (commits + 1) L).length ≤ 8388608) (t : Nat) (ht : t < (record 0 (commits + 1) L).length) :
    Img.Holds q (done d ⟨0, area, record 0 (commits + 1) L⟩ t) commits now := by
  have e : done d ⟨0, area, record 0 (commits + 1) L⟩ t = d.setArea area (d.area area ++ (record 0 (commits + 1) L).take t) := rfl
  have hb : (d.area area ++ (record 0 (commits + 1) L).take t).length ≤ 8388608 := by rw [List.length_append, List.length_take]; omega
  rw [e]
  refine ⟨set_a0 _ _ _ _ h.a0 hb, set_a1 _ _ _ _ h.a1 hb, ?_⟩
  rw [set_h0, set_h1, h.cur]
  refine ⟨(d.area area).length, ?_, ?_, h.g⟩
  · show Reads gen ((d.setArea area _).area area) _ _ _ _ _ _
    rw [area_set]
    exact h.full.ext (by rw [List.take_left' rfl, List.take_length])
  · show take gen commits now (List.drop _ ((d.setArea area _).area area)) _ = _
    rw [area_set, List.drop_left' rfl]
    exact take_torn gen commits now 0 (commits + 1) L t _ hc hl ht
/-- .. and all of them. -/
theorem DiskOk.commit (h : DiskOk q d gen area side commits now) (L : List Chg) (hc : commits + 1 < 4294967296) (hl : (encs L).length < 4294967296) (hs : (d.area area).length + (record 0 (commits + 1) L).length ≤ 8388608) (hL : ∀ c ∈ L, c.Fit)
    (hq : q) (now' : List (B × B)) (ha : applyAll now L = some now') :
    DiskOk q (done d ⟨0, area, record 0 (commits + 1) L⟩ (record 0 (commits + 1) L).length) gen area side (commits + 1) now' := by
  have e : done d ⟨0, area, record 0 (commits + 1) L⟩ (record 0 (commits + 1) L).length = d.setArea area (d.area area ++ record 0 (commits + 1) L) := by
    show d.setArea area (d.area area ++ (record 0 (commits + 1) L).take _) = _
    rw [List.take_length]
  have hb : (d.area area ++ record 0 (commits + 1) L).length ≤ 8388608 := by rw [List.length_append]; omega
  rw [e]
  refine ⟨by rw [set_h0, set_h1, h.cur], h.ar, by rw [set_h0]; exact h.h0, by rw [set_h1]; exact h.h1, ?_, set_a0 _ _ _ _ h.a0 hb, set_a1 _ _ _ _ h.a1 hb, fun _ _ => by rw [area_set, List.length_append, record_len]; omega⟩
  rw [area_set]
  refine (h.full.ext (b' := d.area area ++ record 0 (commits + 1) L) (by rw [List.take_left' rfl, List.take_length])).trans ?_
  have ht := take_record gen commits now 0 (commits + 1) L [] ((d.area area).length == 0) hc hl hL (by
    rw [if_neg]
    · exact ⟨rfl, rfl⟩
    · rintro ⟨h1, h2⟩
      have := h.g hq h2
      have h1 := beq_iff_eq.1 h1
      omega) now' ha
  rw [List.append_nil] at ht
  have := Reads.step (gen := gen) (b := d.area area ++ record 0 (commits + 1) L) (at_ := (d.area area).length) (c := commits) (now := now) (by rw [List.drop_left' rfl]; exact ht) (.refl _ _ _)
  rw [List.length_append]
  exact this
/-- The other area is written to. -/
theorem DiskOk.other (h : DiskOk q d gen area side commits now) (b : B) (hb : b.length ≤ 8388608) : DiskOk q (d.setArea (1 - area) b) gen area side commits now := by
  have := h.ar
  refine ⟨by rw [set_h0, set_h1, h.cur], h.ar, by rw [set_h0]; exact h.h0, by rw [set_h1]; exact h.h1, ?_, set_a0 _ _ _ _ h.a0 hb, set_a1 _ _ _ _ h.a1 hb, ?_⟩
  all_goals rw [area_set_ne _ _ _ _ (by rcases Nat.eq_zero_or_pos area with e | e <;> simp <;> omega)]
  · exact h.full
  · exact h.g
theorem cur_none {h : current d.h0 d.h1 = (gen, area, side)} {x : B} (hx : valid x = none) : current (d.setHead (1 - side) x).h0 (d.setHead (1 - side) x).h1 = (gen, area, side) := by
  unfold current at h
  cases e0 : valid d.h0 with
  | none => cases e1 : valid d.h1 with
    | none =>
      rw [e0, e1] at h; injection h with h1 h2; injection h2 with h2 h3; subst h1 h2 h3
      show current x d.h1 = _
      unfold current; rw [hx, e1]
    | some p =>
      obtain ⟨g, a⟩ := p
      rw [e0, e1] at h; injection h with h1 h2; injection h2 with h2 h3; subst h1 h2 h3
      show current x d.h1 = _
      unfold current; rw [hx, e1]
  | some q => obtain ⟨g', a'⟩ := q; cases e1 : valid d.h1 with
    | none =>
      rw [e0, e1] at h; injection h with h1 h2; injection h2 with h2 h3; subst h1 h2 h3
      show current d.h0 x = _
      unfold current; rw [hx, e0]
    | some p =>
      obtain ⟨g, a⟩ := p
      rw [e0, e1] at h
      dsimp only at h
      split at h
      · injection h with h1 h2; injection h2 with h2 h3; subst h1 h2 h3
        show current x d.h1 = _
        unfold current; rw [hx, e1]
      · injection h with h1 h2; injection h2 with h2 h3; subst h1 h2 h3
        show current d.h0 x = _
        unfold current; rw [hx, e0]
theorem cur_new {h : current d.h0 d.h1 = (gen, area, side)} {x : B} {a2 : Nat} (hx : valid x = some (gen + 1, a2)) : current (d.setHead (1 - side) x).h0 (d.setHead (1 - side) x).h1 = (gen + 1, a2, 1 - side) := by
  unfold current at h
  cases e0 : valid d.h0 with
  | none => cases e1 : valid d.h1 with
    | none =>
      rw [e0, e1] at h; injection h with h1 h2; injection h2 with h2 h3; subst h1 h2 h3
      show current x d.h1 = _
      unfold current; rw [hx, e1]
    | some p =>
      obtain ⟨g, a⟩ := p
      rw [e0, e1] at h; injection h with h1 h2; injection h2 with h2 h3; subst h1 h2 h3
      show current x d.h1 = _
      unfold current; rw [hx, e1]; dsimp only; rw [if_neg (by omega)]
  | some q => obtain ⟨g', a'⟩ := q; cases e1 : valid d.h1 with
    | none =>
      rw [e0, e1] at h; injection h with h1 h2; injection h2 with h2 h3; subst h1 h2 h3
      show current d.h0 x = _
      unfold current; rw [hx, e0]; dsimp only; rw [if_pos (by omega)]
    | some p =>
      obtain ⟨g, a⟩ := p
      rw [e0, e1] at h
      dsimp only at h
      split at h
      · injection h with h1 h2; injection h2 with h2 h3; subst h1 h2 h3
        show current x d.h1 = _
        unfold current; rw [hx, e1]; dsimp only; rw [if_neg (by omega)]
      · injection h with h1 h2; injection h2 with h2 h3; subst h1 h2 h3
        show current d.h0 x = _
        unfold current; rw [hx, e0]; dsimp only; rw [if_pos (by omega)]
theorem head_ok (h : DiskOk q d gen area side commits now) (i : Nat) : HeadOk (d.head i) := by
  unfold Img.head; split
  · exact h.h0
  · exact h.h1
theorem setHead_ok (h0 : HeadOk d.h0) (h1 : HeadOk d.h1) (i : Nat) {x : B} (hx : HeadOk x) : HeadOk (d.setHead i x).h0 ∧ HeadOk (d.setHead i x).h1 := by
  unfold Img.setHead; split
  · exact ⟨hx, h1⟩
  · exact ⟨h0, hx⟩
/-- The new head is written. -/
theorem DiskOk.newHead (h : DiskOk q d gen area side commits now) (ho : d.area (1 - area) = record 1 commits (values now)) (hf : FitM now) (ha : Asc now) (hc : commits < 4294967296) (hl : (encs (values now)).length < 4294967296) (hg : gen + 1 ≤ latest) :
    DiskOk q (d.setHead (1 - side) (part (gen + 1) (1 - area) ++ part (gen + 1) (1 - area))) (gen + 1) (1 - area) (1 - side) commits now := by
  have har := h.ar
  have hv : valid (part (gen + 1) (1 - area) ++ part (gen + 1) (1 - area)) = some (gen + 1, 1 - area) := valid_part hg (by omega)
  obtain ⟨k0, k1⟩ := setHead_ok h.h0 h.h1 (1 - side) (x := part (gen + 1) (1 - area) ++ part (gen + 1) (1 - area)) (.inr (by rw [hv]; simp))
  refine ⟨cur_new (h := h.cur) hv, by omega, k0, k1, ?_, by rw [head_a0]; exact h.a0, by rw [head_a1]; exact h.a1, fun _ _ => by rw [head_area, ho, record_len]; omega⟩
  rw [head_area, ho]
  have ht := take_record (gen + 1) 0 [] 1 commits (values now) [] true hc hl (values_fit hf) (by rw [if_pos ⟨rfl, by omega⟩]) now (by have := applyAll_values now [] ha; simpa using this)
  rw [List.append_nil] at ht
  have := Reads.step (gen := gen + 1) (b := record 1 commits (values now)) (at_ := 0) (c := 0) (now := []) (by exact ht) (.refl _ _ _)
  rw [Nat.zero_add] at this
  exact this
/-- .. byte by byte. -/
theorem DiskOk.tornHead (h : DiskOk q d gen area side commits now) (ho : d.area (1 - area) = record 1 commits (values now)) (hf : FitM now) (ha : Asc now) (hc : commits < 4294967296) (hl : (encs (values now)).length < 4294967296) (hg : gen + 1 ≤ latest) (t : Nat) :
    Img.Holds q (done d ⟨2, 1 - side, part (gen + 1) (1 - area) ++ part (gen + 1) (1 - area)⟩ t) commits now := by
  have e : done d ⟨2, 1 - side, part (gen + 1) (1 - area) ++ part (gen + 1) (1 - area)⟩ t = d.setHead (1 - side) ((part (gen + 1) (1 - area) ++ part (gen + 1) (1 - area)).take t ++ (d.head (1 - side)).drop t) := rfl
  rw [e]
  by_cases hv : valid ((part (gen + 1) (1 - area) ++ part (gen + 1) (1 - area)).take t ++ (d.head (1 - side)).drop t) = none
  · refine ⟨by rw [head_a0]; exact h.a0, by rw [head_a1]; exact h.a1, ?_⟩
    rw [cur_none (h := h.cur) hv]
    refine ⟨(d.area area).length, ?_, ?_, h.g⟩
    · show Reads gen ((d.setHead _ _).area area) _ _ _ _ _ _
      rw [head_area]; exact h.full
    · show take gen commits now (List.drop _ ((d.setHead _ _).area area)) _ = _
      rw [head_area, List.drop_length]; exact take_nil _ _ _ _
  · rcases torn_head (part (gen + 1) (1 - area)) (d.head (1 - side)) (part_len _ _) (head_ok h _) t hv with e1 | e1
    · rw [e1, head_self]; exact h.holds
    · rw [e1]; exact (h.newHead ho hf ha hc hl hg).holds
theorem part2_len (g a : Nat) : (part g a ++ part g a).length = 24 := by simp [part_len]
theorem done_head {i : Nat} (h : HeadOk (d.head i)) (g a : Nat) : done d ⟨2, i, part g a ++ part g a⟩ (part g a ++ part g a).length = d.setHead i (part g a ++ part g a) := by
  show d.setHead i ((part g a ++ part g a).take _ ++ (d.head i).drop _) = _
  rw [List.take_length, part2_len]
  have : (d.head i).drop 24 = [] := by
    rcases h with h | h
    · rw [h]; rfl
    · obtain ⟨⟨g, a⟩, hq⟩ := Option.ne_none_iff_exists'.1 h
      exact List.drop_of_length_le (by rw [(valid_two hq).1]; omega)
  rw [this, List.append_nil]
end
end J
end Go.Proofs.YtjbepnkchoaipaaGreat
/- A store that is written to, and what is recovered from it wherever it is cut. Plain lists. -/
namespace Go.Proofs.YtjbepnkchoaipaaGreat
namespace J
/-- What is on the disk behind some writes and some bytes of the next one. -/
def cutImg (s : St) (w t : Nat) : Img :=
  match s.writes[w]? with
  | none => foldDone s.base (s.writes.take w)
  | some wr => if t = 0 then foldDone s.base (s.writes.take w) else done (foldDone s.base (s.writes.take w)) wr t
/-- How many writes are on the disk then. -/
def eff (s : St) (w t : Nat) : Nat :=
  match s.writes[w]? with
  | none => w
  | some wr => if 0 < t ∧ t = wr.bs.length then w + 1 else w
/-- The last place at which a list has a number that is not greater. -/
def lastIx (at_ : List Nat) (w : Nat) : Nat := at_.zipIdx.foldl (fun n p => if p.1 ≤ w then p.2 else n) 0
theorem lastIx_snoc (at_ : List Nat) (x w : Nat) : lastIx (at_ ++ [x]) w = if x ≤ w then at_.length else lastIx at_ w := by
  unfold lastIx
  rw [List.zipIdx_append, List.foldl_append]
  simp
theorem lastIx_lt : ∀ (n : Nat) (at_ : List Nat) (w : Nat), at_.length = n → 0 < n → lastIx at_ w < n
  | 0, _, _, _, h => absurd h (by omega)
  | n + 1, at_, w, h, _ => by
    obtain ⟨l, x, rfl⟩ : ∃ l x, at_ = l ++ [x] := by
      rcases List.eq_nil_or_concat at_ with e | ⟨l, x, e⟩
      · subst e; simp at h
      · exact ⟨l, x, by rw [e, List.concat_eq_append]⟩
    have hl : l.length = n := by rw [List.length_append] at h; simp at h; exact h
    rw [lastIx_snoc]
    split
    · omega
    · cases n with
      | zero =>
        have : l = [] := List.eq_nil_of_length_eq_zero hl
        subst this; simp [lastIx]
      | succ k => have := lastIx_lt (k + 1) l w hl (by omega); omega
theorem lastIx_all : ∀ (n : Nat) (at_ : List Nat) (w : Nat), at_.length = n → 0 < n → (∀ x ∈ at_, x ≤ w) → lastIx at_ w = n - 1
  | 0, _, _, _, h, _ => absurd h (by omega)
  | n + 1, at_, w, h, _, ha => by
    obtain ⟨l, x, rfl⟩ : ∃ l x, at_ = l ++ [x] := by
      rcases List.eq_nil_or_concat at_ with e | ⟨l, x, e⟩
      · subst e; simp at h
      · exact ⟨l, x, by rw [e, List.concat_eq_append]⟩
    have hl : l.length = n := by rw [List.length_append] at h; simp at h; exact h
    rw [lastIx_snoc, if_pos (ha x (by simp)), hl]; omega
/-- The contents behind the last commit. -/
def St.com (s : St) : List (B × B) := if s.opn then s.was else s.now
/-- What holds of a store that is made by its operations. -/
structure Inv (q : Prop) (s : St) : Prop where
  disk : DiskOk q s.disk s.gen s.area s.side s.commits s.com
  fold : s.disk = foldDone s.base s.writes
  fit : FitM s.now
  asc : Asc s.now
  cfit : FitM s.com
  casc : Asc s.com
  chs : ∀ c ∈ s.changes, c.Fit
  ap : s.opn = true → applyAll s.was s.changes = some s.now
structure Hist (q : Prop) (s : St) (b : Nat) (states : List (List (B × B))) (at_ : List Nat) : Prop where
  len : states.length = at_.length
  pos : 0 < at_.length
  le : ∀ x ∈ at_, x ≤ s.writes.length
  com : b + (at_.length - 1) = s.commits
  last : states[at_.length - 1]? = some s.com
  holds : ∀ w t, w ≤ s.writes.length → (t = 0 ∨ ∃ wr, s.writes[w]? = some wr ∧ t ≤ wr.bs.length) → ∃ now, states[lastIx at_ (eff s w t)]? = some now ∧ Img.Holds q (cutImg s w t) (b + lastIx at_ (eff s w t)) now
theorem fold_snoc (m : Img) (l : List Wr) (w : Wr) : foldDone m (l ++ [w]) = done (foldDone m l) w w.bs.length := by unfold foldDone; rw [List.foldl_append]; rfl
theorem write_get_lt {s : St} {wr : Wr} {w : Nat} (h : w < s.writes.length) : (s.writes ++ [wr])[w]? = s.writes[w]? := List.getElem?_append_left h
theorem write_get_at {s : St} {wr : Wr} : (s.writes ++ [wr])[s.writes.length]? = some wr := by simp
theorem sum_aux {b n c : Nat} (h : 0 < n) (h2 : b + (n - 1) = c) : b + n = c + 1 := by omega
section
variable {q : Prop} {s s' : St} {wr : Wr} {b : Nat} {states : List (List (B × B))} {at_ : List Nat}
theorem cut_lt (hw : s'.writes = s.writes ++ [wr]) (hb : s'.base = s.base) {w : Nat} (t : Nat) (h : w < s.writes.length) : cutImg s' w t = cutImg s w t ∧ eff s' w t = eff s w t := by
  unfold cutImg eff
  rw [hw, hb, write_get_lt h, List.take_append_of_le_length (by omega)]
  exact ⟨rfl, rfl⟩
theorem eff_le {w t : Nat} (h : w < s.writes.length) : eff s w t ≤ s.writes.length := by
  unfold eff
  split
  · omega
  · split <;> omega
/-- A write that is no commit. -/
theorem Hist.write (h : Hist q s b states at_) (hw : s'.writes = s.writes ++ [wr]) (hb : s'.base = s.base) (hf : s.disk = foldDone s.base s.writes) (hc : s'.commits = s.commits) (hcom : s'.com = s.com)
    (hd : Img.Holds q s.disk s.commits s.com) (ht : ∀ t, 0 < t → t ≤ wr.bs.length → Img.Holds q (done s.disk wr t) s.commits s.com) (hn : Img.Holds q (done s.disk wr wr.bs.length) s.commits s.com) : Hist q s' b states at_ := by
  refine ⟨h.len, h.pos, fun x hx => by rw [hw, List.length_append]; have := h.le x hx; omega, by rw [hc]; exact h.com, by rw [hcom]; exact h.last, fun w t hwl hv => ?_⟩
  have hlast : ∀ v, s.writes.length ≤ v → ∃ now, states[lastIx at_ v]? = some now ∧ now = s.com ∧ b + lastIx at_ v = s.commits := by
    intro v hv
    rw [lastIx_all _ at_ v rfl h.pos (fun x hx => Nat.le_trans (h.le x hx) hv)]
    exact ⟨_, h.last, rfl, h.com⟩
  rcases Nat.lt_or_ge w s.writes.length with hlt | hge
  · obtain ⟨e1, e2⟩ := cut_lt hw hb t hlt
    rw [e1, e2]
    refine h.holds w t (by omega) ?_
    rw [hw, write_get_lt hlt] at hv
    exact hv
  · rw [hw, List.length_append] at hwl
    have hwl : w ≤ s.writes.length + 1 := hwl
    rcases (show w = s.writes.length ∨ w = s.writes.length + 1 by omega) with rfl | rfl
    · have he : s.writes.length ≤ eff s' s.writes.length t := by unfold eff; rw [hw, write_get_at]; dsimp only; split <;> omega
      obtain ⟨now, h1, rfl, h3⟩ := hlast _ he
      refine ⟨_, h1, ?_⟩
      rw [h3]
      unfold cutImg
      rw [hw, hb, write_get_at, List.take_left' rfl, ← hf]
      dsimp only
      split
      · exact hd
      · rename_i ht0
        rw [hw, write_get_at] at hv
        rcases hv with hv | ⟨wr', e, hv⟩
        · exact absurd hv ht0
        · injection e with e; subst e
          exact ht t (by omega) hv
    · have hnone : (s.writes ++ [wr])[s.writes.length + 1]? = none := List.getElem?_eq_none (by simp)
      have he : s.writes.length ≤ eff s' (s.writes.length + 1) t := by unfold eff; rw [hw, hnone]; dsimp only; omega
      obtain ⟨now, h1, rfl, h3⟩ := hlast _ he
      refine ⟨_, h1, ?_⟩
      rw [h3]
      unfold cutImg
      rw [hw, hb, hnone, List.take_of_length_le (by simp), fold_snoc, ← hf]
      exact hn
/-- The write of a commit. -/
theorem Hist.commit (h : Hist q s b states at_) (hw : s'.writes = s.writes ++ [wr]) (hb : s'.base = s.base) (hf : s.disk = foldDone s.base s.writes) (hc : s'.commits = s.commits + 1) (now' : List (B × B)) (hcom : s'.com = now') (h0 : 0 < wr.bs.length)
    (hd : Img.Holds q s.disk s.commits s.com) (ht : ∀ t, 0 < t → t < wr.bs.length → Img.Holds q (done s.disk wr t) s.commits s.com) (hn : Img.Holds q (done s.disk wr wr.bs.length) (s.commits + 1) now') :
    Hist q s' b (states ++ [now']) (at_ ++ [s.writes.length + 1]) := by
  have hpos := h.pos
  have hlen := h.len
  have hcomm := h.com
  have hsum : b + at_.length = s.commits + 1 := sum_aux hpos hcomm
  refine ⟨by simp [hlen], by simp, fun x hx => ?_, by rw [hc]; simp; omega, by rw [hcom]; simp [← hlen], fun w t hwl hv => ?_⟩
  · rw [hw, List.length_append]
    rcases List.mem_append.1 hx with hx | hx
    · have := h.le x hx; omega
    · simp at hx; subst hx; simp
  have hnew : ∀ v, s.writes.length + 1 ≤ v → ∃ now, (states ++ [now'])[lastIx (at_ ++ [s.writes.length + 1]) v]? = some now ∧ now = now' ∧ b + lastIx (at_ ++ [s.writes.length + 1]) v = s.commits + 1 := by
    intro v hv
    rw [lastIx_snoc, if_pos hv]
    exact ⟨now', by rw [← hlen]; simp, rfl, hsum⟩
  have hold : ∀ v, v ≤ s.writes.length → lastIx (at_ ++ [s.writes.length + 1]) v = lastIx at_ v ∧ (states ++ [now'])[lastIx at_ v]? = states[lastIx at_ v]? := by
    intro v hv
    rw [lastIx_snoc, if_neg (by omega)]
    have := lastIx_lt _ at_ v rfl hpos
    exact ⟨rfl, List.getElem?_append_left (by omega)⟩
  rcases Nat.lt_or_ge w s.writes.length with hlt | hge
  · obtain ⟨e1, e2⟩ := cut_lt hw hb t hlt
    rw [e1, e2]
    obtain ⟨e3, e4⟩ := hold _ (eff_le (t := t) hlt)
    rw [e3, e4]
    refine h.holds w t (by omega) ?_
    rw [hw, write_get_lt hlt] at hv
    exact hv
  · rw [hw, List.length_append] at hwl
    have hwl : w ≤ s.writes.length + 1 := hwl
    rcases (show w = s.writes.length ∨ w = s.writes.length + 1 by omega) with rfl | rfl
    · have hcut : cutImg s' s.writes.length t = if t = 0 then s.disk else done s.disk wr t := by
        unfold cutImg
        rw [hw, hb, write_get_at, List.take_left' rfl, ← hf]
      by_cases hfull : 0 < t ∧ t = wr.bs.length
      · have he : eff s' s.writes.length t = s.writes.length + 1 := by unfold eff; rw [hw, write_get_at]; dsimp only; rw [if_pos hfull]
        rw [he, hcut]
        obtain ⟨now, h1, rfl, h3⟩ := hnew _ (Nat.le_refl _)
        refine ⟨_, h1, ?_⟩
        rw [h3, if_neg (by omega), hfull.2]
        exact hn
      · have he : eff s' s.writes.length t = s.writes.length := by unfold eff; rw [hw, write_get_at]; dsimp only; rw [if_neg hfull]
        rw [he, hcut]
        obtain ⟨e3, e4⟩ := hold _ (Nat.le_refl _)
        rw [e3, e4, lastIx_all _ at_ _ rfl hpos h.le]
        refine ⟨_, h.last, ?_⟩
        rw [hcomm]
        split
        · exact hd
        · rename_i ht0
          rw [hw, write_get_at] at hv
          rcases hv with hv | ⟨wr', e, hv⟩
          · exact absurd hv ht0
          · injection e with e; subst e
            exact ht t (by omega) (by omega)
    · have hnone : (s.writes ++ [wr])[s.writes.length + 1]? = none := List.getElem?_eq_none (by simp)
      have he : eff s' (s.writes.length + 1) t = s.writes.length + 1 := by unfold eff; rw [hw, hnone]
      rw [he]
      obtain ⟨now, h1, rfl, h3⟩ := hnew _ (Nat.le_refl _)
      refine ⟨_, h1, ?_⟩
      rw [h3]
      unfold cutImg
      rw [hw, hb, hnone, List.take_of_length_le (by simp), fold_snoc, ← hf]
      exact hn
end
end J
end Go.Proofs.YtjbepnkchoaipaaGreat
/- The operations keep what holds of a store. Plain lists. -/
namespace Go.Proofs.YtjbepnkchoaipaaGreat
namespace J
theorem current_nil : current [] [] = (0, 0, 1) := rfl
theorem inv_new (q : Prop) : Inv q new :=
  ⟨⟨rfl, Nat.zero_le _, .inl rfl, .inl rfl, .refl _ _ _, Nat.zero_le _, Nat.zero_le _, fun _ h => absurd h (Nat.lt_irrefl _)⟩, rfl, fit_nil, asc_nil, fit_nil, asc_nil, fun c hc => (by cases hc), fun h => (by cases h)⟩
/-- A store without writes. -/
theorem hist_base {q : Prop} {s : St} (h : Inv q s) (hw : s.writes = []) : Hist q s s.commits [s.com] [0] := by
  refine ⟨rfl, Nat.one_pos, fun x hx => by simp at hx; omega, rfl, rfl, fun w t hwl _ => ?_⟩
  rw [hw] at hwl
  obtain rfl : w = 0 := by simpa using hwl
  have he : eff s 0 t = 0 := by unfold eff; rw [hw]; rfl
  have hc : cutImg s 0 t = s.disk := by rw [h.fold]; unfold cutImg; rw [hw]; rfl
  rw [he, hc]
  exact ⟨_, rfl, h.disk.holds⟩
theorem fit_valid_h (h : B) : valid (if valid h = none then [] else h) = valid h := by split <;> simp_all [valid_nil]
theorem headOk_of (h : B) : HeadOk (if valid h = none then [] else h) := by
  split
  · exact .inl rfl
  · rename_i hn; exact .inr hn
/-- What is recovered. -/
theorem inv_recovered {q : Prop} {m : Img} {at_ commits : Nat} {now : List (B × B)} (h : Reads (current m.h0 m.h1).1 (m.area (current m.h0 m.h1).2.1) 0 0 [] at_ commits now) (hl : at_ ≤ (m.area (current m.h0 m.h1).2.1).length) (h0 : m.a0.length ≤ 8388608) (h1 : m.a1.length ≤ 8388608) (hg : q → 0 < (current m.h0 m.h1).1 → 0 < at_) :
    Inv q (recovered m at_ commits now) ∧ commits < 4294967296 := by
  obtain ⟨k1, k2, k3⟩ := h.fit fit_nil asc_nil (by omega)
  have hca := current_area m.h0 m.h1
  have hcur : ∀ (a0 a1 : B), current ({ (m.setArea (current m.h0 m.h1).2.1 a0) with h0 := if valid m.h0 = none then [] else m.h0, h1 := if valid m.h1 = none then [] else m.h1 } : Img).h0 ({ (m.setArea (current m.h0 m.h1).2.1 a1) with h0 := if valid m.h0 = none then [] else m.h0, h1 := if valid m.h1 = none then [] else m.h1 } : Img).h1 = current m.h0 m.h1 := by
    intro a0 a1
    show current (if valid m.h0 = none then [] else m.h0) (if valid m.h1 = none then [] else m.h1) = _
    unfold current
    rw [fit_valid_h, fit_valid_h]
  have harea : (recovered m at_ commits now).disk.area (current m.h0 m.h1).2.1 = (m.area (current m.h0 m.h1).2.1).take at_ := by
    have : ∀ (x : Img) (i : Nat) (u v : B), ({ x with h0 := u, h1 := v } : Img).area i = x.area i := fun _ _ _ _ => rfl
    unfold recovered
    dsimp only
    rw [this, area_set]
  have hlen : ((m.area (current m.h0 m.h1).2.1).take at_).length = at_ := by rw [List.length_take]; omega
  have hmax : ((m.area (current m.h0 m.h1).2.1).take at_).length ≤ 8388608 := by
    rw [List.length_take]
    have : (m.area (current m.h0 m.h1).2.1).length ≤ 8388608 := by unfold Img.area; split <;> assumption
    omega
  refine ⟨⟨⟨hcur _ _, hca.1, headOk_of _, headOk_of _, ?_, set_a0 _ _ _ _ h0 hmax, set_a1 _ _ _ _ h1 hmax, fun hq hgen => ?_⟩, rfl, k1, k2, k1, k2, fun c hc => (by cases hc), fun e => (by cases e)⟩, k3⟩
  · show Reads (current m.h0 m.h1).1 ((recovered m at_ commits now).disk.area (current m.h0 m.h1).2.1) 0 0 [] _ commits now
    show Reads (current m.h0 m.h1).1 _ 0 0 [] ((recovered m at_ commits now).disk.area (current m.h0 m.h1).2.1).length commits now
    rw [harea, hlen]
    exact h.ext (by rw [List.take_take, Nat.min_self])
  · show 0 < ((recovered m at_ commits now).disk.area (current m.h0 m.h1).2.1).length
    rw [harea, hlen]
    exact hg hq hgen
section
variable {q : Prop} {s : St} {b : Nat} {states : List (List (B × B))} {at_ : List Nat}
/-- Nothing is written. -/
theorem Hist.same {s' : St} (h : Hist q s b states at_) (hw : s'.writes = s.writes) (hb : s'.base = s.base) (hc : s'.commits = s.commits) (hcom : s'.com = s.com) : Hist q s' b states at_ := by
  have e1 : ∀ w t, cutImg s' w t = cutImg s w t := fun w t => by unfold cutImg; rw [hw, hb]
  have e2 : ∀ w t, eff s' w t = eff s w t := fun w t => by unfold eff; rw [hw]
  refine ⟨h.len, h.pos, by rw [hw]; exact h.le, by rw [hc]; exact h.com, by rw [hcom]; exact h.last, fun w t hwl hv => ?_⟩
  rw [e1, e2]
  rw [hw] at hwl hv
  exact h.holds w t hwl hv
theorem inv_begin (h : Inv q s) (ho : s.opn = false) : Inv q (begin_ s) ∧ (begin_ s).com = s.com := by
  have hcom : s.com = s.now := by unfold St.com; rw [ho]; rfl
  have hcom' : (begin_ s).com = s.now := rfl
  have hd := h.disk
  rw [hcom] at hd
  exact ⟨⟨hd, h.fold, h.fit, h.asc, h.fit, h.asc, fun c hc => (by cases hc), fun _ => rfl⟩, by rw [hcom, hcom']⟩
theorem inv_abandon (h : Inv q s) (ho : s.opn = true) : Inv q (abandon s) ∧ (abandon s).com = s.com := by
  have hcom : s.com = s.was := by unfold St.com; rw [ho]; rfl
  have hcom' : (abandon s).com = s.was := rfl
  have hd := h.disk
  have hf := h.cfit
  have ha := h.casc
  rw [hcom] at hd hf ha
  exact ⟨⟨hd, h.fold, hf, ha, hf, ha, fun c hc => (by cases hc), fun e => (by cases e)⟩, by rw [hcom, hcom']⟩
/-- A change is added to the open transaction. -/
theorem inv_added (h : Inv q s) (ho : s.opn = true) (c : Chg) (hc : c.Fit) (hg : c.gone = true → look s.now c.key ≠ none) : Inv q (apply { s with changes := s.changes ++ [c], size := s.size + c.len } c) := by
  refine ⟨?_, h.fold, ?_, ?_, ?_, ?_, fun x hx => ?_, fun _ => ?_⟩
  · have hd := h.disk
    have hcom : s.com = s.was := by unfold St.com; rw [ho]; rfl
    have hcom' : (apply { s with changes := s.changes ++ [c], size := s.size + c.len } c).com = s.was := by unfold St.com apply; dsimp only; rw [ho]; rfl
    rw [hcom'] ; rw [hcom] at hd; exact hd
  · show FitM (if c.gone then _ else _)
    split
    · exact fit_del h.fit _
    · exact fit_ins h.fit _ _ hc.k0 hc.k hc.v
  · show Asc (if c.gone then _ else _)
    split
    · exact asc_del h.asc _
    · exact asc_ins h.asc _ _
  · have hf := h.cfit
    unfold St.com at hf; rw [ho] at hf
    show FitM (if s.opn then s.was else _)
    rw [ho]; exact hf
  · have hf := h.casc
    unfold St.com at hf; rw [ho] at hf
    show Asc (if s.opn then s.was else _)
    rw [ho]; exact hf
  · rcases List.mem_append.1 hx with hx | hx
    · exact h.chs x hx
    · simp at hx; subst hx; exact hc
  · show applyAll s.was (s.changes ++ [c]) = some (if c.gone then del s.now c.key else ins s.now c.key c.val)
    rw [applyAll_app, h.ap ho]
    show applyAll s.now [c] = _
    unfold applyAll
    cases hgo : c.gone with
    | true => simp only [if_true]; rw [if_neg (hg hgo)]; rfl
    | false => simp only [Bool.false_eq_true, if_false]; rfl
theorem write_disk (s : St) (w : Wr) : (write s w).disk = done s.disk w w.bs.length := rfl
theorem compactOk_iff {s : St} {now : List (B × B)} (h : compactOk s now = true) : (record 1 s.commits (values now)).length ≤ 4194304 ∧ s.gen ≠ latest ∧ (record 1 s.commits (values now)).length + 24 ≤ 16777216 - s.logged := of_decide_eq_true h
theorem write_fold {s : St} (w : Wr) (h : s.disk = foldDone s.base s.writes) : (write s w).disk = foldDone (write s w).base (write s w).writes := by
  have e : foldDone (write s w).base (write s w).writes = foldDone s.base (s.writes ++ [w]) := rfl
  rw [e, fold_snoc, ← h]; rfl
theorem write_writes (s : St) (w : Wr) : (write s w).writes = s.writes ++ [w] := rfl
theorem write_base (s : St) (w : Wr) : (write s w).base = s.base := rfl
theorem write_commits (s : St) (w : Wr) : (write s w).commits = s.commits := rfl
theorem write_com (s : St) (w : Wr) : (write s w).com = s.com := by unfold St.com; rfl
theorem take_le {l : B} {n : Nat} (h : l.length ≤ n) (t : Nat) : (l.take t).length ≤ n := by rw [List.length_take]; omega
def c1 (s : St) : St := write s ⟨1, 1 - s.area, []⟩
def c2 (s : St) : St := write (c1 s) ⟨0, 1 - s.area, record 1 s.commits (values s.com)⟩
def c2' (s : St) : St := { c2 s with side := 1 - s.side }
def c3 (s : St) : St := write (c2' s) ⟨2, 1 - s.side, part (s.gen + 1) (1 - s.area) ++ part (s.gen + 1) (1 - s.area)⟩
theorem compacted_eq (s : St) : compacted s s.com = { c3 s with gen := s.gen + 1, area := 1 - s.area } := rfl
/-- Compacting. -/
theorem inv_compacted (h : Inv q s) (hok : compactOk s s.com = true) (hc : s.commits < 4294967296) :
    Inv q (compacted s s.com) ∧ (compacted s s.com).com = s.com ∧ (Hist q s b states at_ → Hist q (compacted s s.com) b states at_) ∧ (compacted s s.com).writes.length = s.writes.length + 3 := by
  have h1 := (compactOk_iff hok).1
  have hmx : (record 1 s.commits (values s.com)).length ≤ 8388608 := by omega
  have hl : (encs (values s.com)).length < 4294967296 := by rw [record_len] at h1; omega
  have hgen : s.gen + 1 ≤ latest := by
    have := current_area s.disk.h0 s.disk.h1
    rw [h.disk.cur] at this
    exact Nat.lt_of_le_of_ne this.2.1 (compactOk_iff hok).2.1
  have d0 := h.disk
  have e1 : (c1 s).disk = s.disk.setArea (1 - s.area) [] := rfl
  have d1 : DiskOk q (c1 s).disk s.gen s.area s.side s.commits s.com := by rw [e1]; exact d0.other [] (Nat.zero_le _)
  have a1 : (c1 s).disk.area (1 - s.area) = [] := by rw [e1, area_set]
  have t2 : ∀ t, done (c1 s).disk ⟨0, 1 - s.area, record 1 s.commits (values s.com)⟩ t = (c1 s).disk.setArea (1 - s.area) ((record 1 s.commits (values s.com)).take t) := by
    intro t
    have e : done (c1 s).disk ⟨0, 1 - s.area, record 1 s.commits (values s.com)⟩ t = (c1 s).disk.setArea (1 - s.area) ((c1 s).disk.area (1 - s.area) ++ (record 1 s.commits (values s.com)).take t) := rfl
    rw [e, a1, List.nil_append]
  have e2 : (c2 s).disk = (c1 s).disk.setArea (1 - s.area) (record 1 s.commits (values s.com)) := by
    have e : (c2 s).disk = done (c1 s).disk ⟨0, 1 - s.area, record 1 s.commits (values s.com)⟩ (record 1 s.commits (values s.com)).length := rfl
    rw [e, t2, List.take_length]
  have d2 : DiskOk q (c2 s).disk s.gen s.area s.side s.commits s.com := by rw [e2]; exact d1.other _ hmx
  have a2 : (c2 s).disk.area (1 - s.area) = record 1 s.commits (values s.com) := by rw [e2, area_set]
  have d3 := d2.newHead a2 h.cfit h.casc hc hl hgen
  have e3 : (c3 s).disk = (c2 s).disk.setHead (1 - s.side) (part (s.gen + 1) (1 - s.area) ++ part (s.gen + 1) (1 - s.area)) := done_head (d := (c2 s).disk) (head_ok d2 (1 - s.side)) _ _
  have f1 : (c1 s).disk = foldDone (c1 s).base (c1 s).writes := write_fold _ h.fold
  have f2 : (c2 s).disk = foldDone (c2 s).base (c2 s).writes := write_fold _ f1
  have f2' : (c2' s).disk = foldDone (c2' s).base (c2' s).writes := f2
  have f3 : (c3 s).disk = foldDone (c3 s).base (c3 s).writes := write_fold _ f2'
  rw [compacted_eq]
  have k1 : ({ c3 s with gen := s.gen + 1, area := 1 - s.area } : St).now = s.now := rfl
  have k2 : ({ c3 s with gen := s.gen + 1, area := 1 - s.area } : St).changes = s.changes := rfl
  have k3 : ({ c3 s with gen := s.gen + 1, area := 1 - s.area } : St).opn = s.opn := rfl
  have k4 : ({ c3 s with gen := s.gen + 1, area := 1 - s.area } : St).was = s.was := rfl
  have hcom3 : ({ c3 s with gen := s.gen + 1, area := 1 - s.area } : St).com = s.com := by unfold St.com; rw [k1, k3, k4]
  refine ⟨⟨?_, ?_, ?_, ?_, ?_, ?_, ?_, ?_⟩, hcom3, fun hh => ?_, ?_⟩
  · rw [hcom3]
    show DiskOk q (c3 s).disk (s.gen + 1) (1 - s.area) (1 - s.side) s.commits s.com
    rw [e3]; exact d3
  · exact f3
  · rw [k1]; exact h.fit
  · rw [k1]; exact h.asc
  · rw [hcom3]; exact h.cfit
  · rw [hcom3]; exact h.casc
  · rw [k2]; exact h.chs
  · rw [k1, k2, k3, k4]; exact h.ap
  · have H1 : Hist q (c1 s) b states at_ := hh.write (s' := c1 s) (wr := ⟨1, 1 - s.area, []⟩) (write_writes _ _) (write_base _ _) h.fold (write_commits _ _) (write_com _ _) d0.holds (fun t h0 hl => absurd hl (Nat.not_le.2 h0)) d1.holds
    have hm1 : (c1 s).commits = s.commits := rfl
    have hm2 : (c1 s).com = s.com := write_com _ _
    have hd1 := d1.holds
    have H2 : Hist q (c2 s) b states at_ := H1.write (s' := c2 s) (wr := ⟨0, 1 - s.area, record 1 s.commits (values s.com)⟩) (write_writes _ _) (write_base _ _) f1 (write_commits _ _) (write_com _ _) (by rw [hm1, hm2]; exact d1.holds)
      (fun t _ _ => by rw [hm1, hm2, t2]; exact (d1.other _ (take_le hmx t)).holds) (by rw [hm1, hm2, t2]; exact (d1.other _ (take_le hmx _)).holds)
    have H2' : Hist q (c2' s) b states at_ := H2.same rfl rfl rfl (by unfold St.com; rfl)
    have hm3 : (c2' s).commits = s.commits := rfl
    have hm4 : (c2' s).com = s.com := (show (c2' s).com = (c2 s).com by unfold St.com; rfl).trans ((write_com _ _).trans hm2)
    have hm5 : (c2' s).disk = (c2 s).disk := rfl
    have H3 : Hist q (c3 s) b states at_ := H2'.write (s' := c3 s) (wr := ⟨2, 1 - s.side, part (s.gen + 1) (1 - s.area) ++ part (s.gen + 1) (1 - s.area)⟩) (write_writes _ _) (write_base _ _) f2' (write_commits _ _) (write_com _ _) (by rw [hm3, hm4, hm5]; exact d2.holds)
      (fun t _ _ => by rw [hm3, hm4, hm5]; exact d2.tornHead a2 h.cfit h.casc hc hl hgen t) (by rw [hm3, hm4, hm5]; exact d2.tornHead a2 h.cfit h.casc hc hl hgen _)
    exact H3.same rfl rfl rfl (by unfold St.com; rfl)
  · show (c3 s).writes.length = _
    unfold c3 c2' c2 c1
    rw [write_writes, List.length_append]
    show ((write (write s _) _).writes).length + 1 = _
    rw [write_writes, write_writes]
    simp
/-- A commit. -/
theorem inv_committed (h : Inv q s) (hq : q) (ho : s.opn = true) (hs : (s.disk.area s.area).length + (record 0 (s.commits + 1) s.changes).length ≤ 8388608) (hc : s.commits + 1 < 4294967296) (hl : (encs s.changes).length < 4294967296) :
    Inv q (committed s) ∧ (committed s).com = s.now ∧ (Hist q s b states at_ → Hist q (committed s) b (states ++ [s.now]) (at_ ++ [s.writes.length + 1])) := by
  have hcom : s.com = s.was := by unfold St.com; rw [ho]; rfl
  have hd := h.disk
  have hap : applyAll s.com s.changes = some s.now := by rw [hcom]; exact h.ap ho
  have d1 := hd.commit s.changes hc hl hs h.chs hq s.now hap
  have f1 : (committed s).disk = foldDone (committed s).base (committed s).writes := write_fold (s := s) ⟨0, s.area, record 0 (s.commits + 1) s.changes⟩ h.fold
  have hcom' : (committed s).com = s.now := rfl
  refine ⟨⟨?_, f1, h.fit, h.asc, ?_, ?_, fun c hc => (by cases hc), fun e => (by cases e)⟩, hcom', fun hh => ?_⟩
  · rw [hcom']; exact d1
  · rw [hcom']; exact h.fit
  · rw [hcom']; exact h.asc
  · exact hh.commit (s' := committed s) (wr := ⟨0, s.area, record 0 (s.commits + 1) s.changes⟩) rfl rfl h.fold rfl s.now hcom' (by rw [record_len]; omega) hd.holds (fun t _ ht => hd.torn s.changes hc hl hs t ht) d1.holds
end
end J
end Go.Proofs.YtjbepnkchoaipaaGreat
