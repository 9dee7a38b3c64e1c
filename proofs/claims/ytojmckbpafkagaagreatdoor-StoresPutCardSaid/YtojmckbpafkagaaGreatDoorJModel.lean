/- The model of a store of journals: plain lists. Nothing of the program stands here. -/
set_option linter.unusedVariables false
set_option linter.unusedSimpArgs false
namespace Go.Proofs.YtojmckbpafkagaaGreatDoor
namespace J
abbrev B := List UInt8
/-- Some bytes of a number, the least significant one first. -/
def leB : Nat → Nat → B
  | _, 0 => []
  | n, k + 1 => UInt8.ofNat n :: leB (n / 256) k
/-- The number in bytes. -/
def leV : B → Nat
  | [] => 0
  | b :: l => b.toNat + 256 * leV l
theorem leB_len : ∀ (k n : Nat), (leB n k).length = k
  | 0, _ => rfl
  | k + 1, n => by simp [leB, leB_len k]
theorem leV_leB : ∀ (k n : Nat), leV (leB n k) = n % 256 ^ k
  | 0, n => by simp [leB, leV, Nat.mod_one]
  | k + 1, n => by
    have ih := leV_leB k (n / 256)
    simp only [leB, leV, ih, UInt8.toNat_ofNat']
    have : n % 256 ^ (k + 1) = n % 256 + 256 * (n / 256 % 256 ^ k) := by
      rw [Nat.pow_succ, Nat.mul_comm (256 ^ k) 256, Nat.mod_mul]
    rw [this]
theorem leV_lt : ∀ (l : B), leV l < 256 ^ l.length
  | [] => by simp [leV]
  | b :: l => by
    have ih := leV_lt l
    have hb := b.toNat_lt
    simp only [leV, List.length_cons, Nat.pow_succ]
    omega
theorem leB_leV : ∀ (l : B), leB (leV l) l.length = l
  | [] => rfl
  | b :: l => by
    have ih := leB_leV l
    have hb := b.toNat_lt
    simp only [leV, List.length_cons, leB]
    have h1 : (b.toNat + 256 * leV l) / 256 = leV l := by omega
    rw [h1, ih]
    congr 1
    apply UInt8.toNat_inj.1
    rw [UInt8.toNat_ofNat']
    omega
theorem leB_snoc : ∀ (k n : Nat), leB n (k + 1) = leB n k ++ [UInt8.ofNat (n / 256 ^ k)]
  | 0, n => by simp [leB]
  | k + 1, n => by
    have ih := leB_snoc k (n / 256)
    show UInt8.ofNat n :: leB (n / 256) (k + 1) = _
    rw [ih, Nat.div_div_eq_div_mul, show 256 * 256 ^ k = 256 ^ (k + 1) by rw [Nat.pow_succ, Nat.mul_comm]]
    rfl
/-- The check of bytes. -/
def chkStep (s : Nat) (x : UInt8) : Nat := ((s ^^^ x.toNat) * 16777619) % 4294967296
def chk (l : B) : Nat := l.foldl chkStep 2166136261
theorem chk_snoc (l : B) (x : UInt8) : chk (l ++ [x]) = chkStep (chk l) x := by
  unfold chk; rw [List.foldl_append, List.foldl_cons, List.foldl_nil]
theorem chkStep_lt (s : Nat) (x : UInt8) : chkStep s x < 4294967296 := by unfold chkStep; omega
theorem chk_lt' : ∀ (l : B) (s : Nat), s < 4294967296 → l.foldl chkStep s < 4294967296
  | [], _, h => h
  | x :: t, s, _ => chk_lt' t _ (chkStep_lt s x)
theorem chk_lt (l : B) : chk l < 4294967296 := chk_lt' l 2166136261 (by omega)

structure Chg where
  key : B
  val : B
  gone : Bool
structure Img where
  h0 : B
  h1 : B
  a0 : B
  a1 : B
/-- A write: its kind (0 grow, 1 empty, 2 head), its index, its bytes. -/
structure Wr where
  kind : Nat
  idx : Nat
  bs : B
structure St where
  opn : Bool
  now : List (B × B)
  changes : List Chg
  size : Nat
  spoilt : Bool
  was : List (B × B)
  commits : Nat
  gen : Nat
  area : Nat
  side : Nat
  base : Img
  disk : Img
  writes : List Wr
  logged : Nat
def img0 : Img := ⟨[], [], [], []⟩
def new : St := ⟨false, [], [], 0, false, [], 0, 0, 0, 1, img0, img0, [], 0⟩

/-- The value of a key. -/
def look : List (B × B) → B → Option B
  | [], _ => none
  | p :: t, k => if p.1 = k then some p.2 else look t k
def del (l : List (B × B)) (k : B) : List (B × B) := l.filter fun p => !(p.1 == k)
def ins (l : List (B × B)) (k v : B) : List (B × B) := (del l k).takeWhile (fun p => decide (p.1 < k)) ++ (k, v) :: (del l k).dropWhile (fun p => decide (p.1 < k))

def Chg.len (c : Chg) : Nat := 3 + c.key.length + if c.gone then 0 else 4 + c.val.length
def Chg.enc (c : Chg) : B := if c.gone then 0 :: leB c.key.length 2 ++ c.key else 1 :: leB c.key.length 2 ++ c.key ++ leB c.val.length 4 ++ c.val
def encs (l : List Chg) : B := l.flatMap Chg.enc
def body (kind number : Nat) (l : List Chg) : B := UInt8.ofNat kind :: leB number 4 ++ leB (encs l).length 4 ++ encs l
def record (kind number : Nat) (l : List Chg) : B := body kind number l ++ leB (chk (body kind number l)) 4

def Img.area (m : Img) (i : Nat) : B := if i = 0 then m.a0 else m.a1
def Img.head (m : Img) (i : Nat) : B := if i = 0 then m.h0 else m.h1
def Img.setArea (m : Img) (i : Nat) (b : B) : Img := if i = 0 then { m with a0 := b } else { m with a1 := b }
def Img.setHead (m : Img) (i : Nat) (b : B) : Img := if i = 0 then { m with h0 := b } else { m with h1 := b }
/-- A disk behind a write of which only the first bytes are written. -/
def done (m : Img) (w : Wr) (many : Nat) : Img :=
  if w.kind = 0 then m.setArea w.idx (m.area w.idx ++ w.bs.take many)
  else if w.kind = 1 then m.setArea w.idx []
  else m.setHead w.idx (w.bs.take many ++ (m.head w.idx).drop many)
def write (s : St) (w : Wr) : St := { s with writes := s.writes ++ [w], logged := s.logged + w.bs.length, disk := done s.disk w w.bs.length }
def values (l : List (B × B)) : List Chg := l.map fun p => ⟨p.1, p.2, false⟩

def apply (s : St) (c : Chg) : St := { s with now := if c.gone then del s.now c.key else ins s.now c.key c.val }
def begin_ (s : St) : St := { s with opn := true, spoilt := false, changes := [], size := 13, was := s.now }
def add (s : St) (c : Chg) : St × Int :=
  if 4194304 - s.size < c.len then ({ s with spoilt := true }, 9) else (apply { s with changes := s.changes ++ [c], size := s.size + c.len } c, 0)
def put (s : St) (k v : B) : St × Int :=
  if s.opn = false then (s, 6) else if k = [] ∨ 300 < k.length then (s, 1) else if 8192 < v.length then (s, 3) else add s ⟨k, v, false⟩
def delete (s : St) (k : B) : St × Int :=
  if s.opn = false then (s, 6) else if look s.now k = none then (s, 7) else add s ⟨k, [], true⟩
def abandon (s : St) : St := { s with opn := false, changes := [], now := s.was, was := [] }
def latest : Nat := 4611686018427387904
def part (gen area : Nat) : B := leB gen 8 ++ leB area 4
/-- Compacting, where there is room. -/
def compacted (s : St) (now : List (B × B)) : St :=
  let s1 := write s ⟨1, 1 - s.area, []⟩
  let s2 := write s1 ⟨0, 1 - s.area, record 1 s.commits (values now)⟩
  let s3 := write { s2 with side := 1 - s.side } ⟨2, 1 - s.side, part (s.gen + 1) (1 - s.area) ++ part (s.gen + 1) (1 - s.area)⟩
  { s3 with gen := s.gen + 1, area := 1 - s.area }
def compactOk (s : St) (now : List (B × B)) : Bool :=
  decide ((record 1 s.commits (values now)).length ≤ 4194304 ∧ s.gen ≠ latest ∧ (record 1 s.commits (values now)).length + 24 ≤ 16777216 - s.logged)
def compact (s : St) (now : List (B × B)) : St × Int := if compactOk s now then (compacted s now, 0) else (s, 9)
def committed (s : St) : St :=
  let s1 := write s ⟨0, s.area, record 0 (s.commits + 1) s.changes⟩
  { s1 with commits := s.commits + 1, opn := false, changes := [], was := [] }
def fits (s : St) (b : B) : Bool := decide ((s.disk.area s.area).length + b.length ≤ 4194304)
def commitEnd (s : St) : St × Int × Int :=
  if fits s (record 0 (s.commits + 1) s.changes) && decide ((record 0 (s.commits + 1) s.changes).length ≤ 16777216 - s.logged) then (committed s, s.commits + 1, 0) else (s, 0, 9)
def commit (s : St) : St × Int × Int :=
  if s.opn = false then (s, 0, 6) else if s.spoilt then (s, 0, 9)
  else if fits s (record 0 (s.commits + 1) s.changes) then commitEnd s
  else if compactOk s s.was then commitEnd (compacted s s.was) else (s, 0, 9)
def foldDone (m : Img) (l : List Wr) : Img := l.foldl (fun m w => done m w w.bs.length) m
/-- What is on the disk if the power fails. -/
def cut (s : St) (writes torn : Int) : Option Img :=
  if writes < 0 ∨ (s.writes.length : Int) < writes ∨ torn < 0 then none
  else match s.writes[writes.toNat]? with
    | none => if torn = 0 then some (foldDone s.base s.writes) else none
    | some w => if (w.bs.length : Int) < torn then none else
        let m := foldDone s.base (s.writes.take writes.toNat)
        some (if torn = 0 then m else done m w torn.toNat)

/-- The generation and the area of a head that is valid. -/
def valid (b : B) : Option (Nat × Nat) :=
  if b.length = 24 ∧ b.take 12 = b.drop 12 ∧ leV ((b.take 12).drop 8) ≤ 1 ∧ leV (b.take 8) ≤ latest then some (leV (b.take 8), leV ((b.take 12).drop 8)) else none
/-- One change at the beginning of bytes, and what is behind it. -/
def chgOf (b : B) : Option (Chg × B) :=
  if b.length < 3 ∨ 1 < (b.headD 0).toNat then none
  else
    let n := leV ((b.take 3).drop 1)
    let r := b.drop 3
    if n = 0 ∨ 300 < n ∨ r.length < n then none
    else if b.headD 0 = 0 then some (⟨r.take n, [], true⟩, r.drop n)
    else
      let q := r.drop n
      if q.length < 4 ∨ 8192 < leV (q.take 4) ∨ q.length - 4 < leV (q.take 4) then none
      else some (⟨r.take n, (q.drop 4).take (leV (q.take 4)), false⟩, q.drop (4 + leV (q.take 4)))
theorem chgOf_less {b : B} {c : Chg} {r : B} (h : chgOf b = some (c, r)) : r.length < b.length := by
  unfold chgOf at h
  split at h
  · cases h
  · dsimp only at h
    split at h
    · cases h
    · split at h
      · injection h with h; injection h with _ h; subst h; simp; omega
      · split at h
        · cases h
        · injection h with h; injection h with _ h; subst h; simp; omega
/-- The changes of a record. -/
def changesOf (b : B) : Option (List Chg) :=
  if b = [] then some [] else
    match h : chgOf b with
    | none => none
    | some (c, r) => (changesOf r).map (c :: ·)
termination_by b.length
decreasing_by exact chgOf_less h
/-- The changes are made, one by one; a removal of nothing is an error. -/
def applyAll : List (B × B) → List Chg → Option (List (B × B))
  | m, [] => some m
  | m, c :: t => if c.gone then (if look m c.key = none then none else applyAll (del m c.key) t) else applyAll (ins m c.key c.val) t
/-- What a record at the beginning of bytes does. -/
inductive Took where
  | stop
  | bad (e : Int)
  | took (n commits : Nat) (now : List (B × B))
def take (gen commits : Nat) (now : List (B × B)) (b : B) (first : Bool) : Took :=
  if b.length < 9 ∨ b.length - 13 < leV ((b.take 9).drop 5) ∨ b.length < 13 then .stop
  else
    let n := 9 + leV ((b.take 9).drop 5)
    if chk (b.take n) ≠ leV ((b.drop n).take 4) then .bad 16
    else
      let number := leV ((b.take 5).drop 1)
      let ok := if first = true ∧ 0 < gen then b.headD 0 = 1 else b.headD 0 = 0 ∧ number = commits + 1
      match changesOf ((b.take n).drop 9) with
      | none => .bad 4
      | some l => if ¬ ok then .bad 4 else match applyAll now l with
        | none => .bad 4
        | some now' => .took (n + 4) number now'
/-- The records of an area are taken in, from a place on. -/
def takeAll (gen : Nat) (b : B) : Nat → Nat → Nat → List (B × B) → Except Int (Nat × Nat × List (B × B))
  | 0, at_, commits, now => .ok (at_, commits, now)
  | fuel + 1, at_, commits, now =>
    match take gen commits now (b.drop at_) (at_ == 0) with
    | .stop => .ok (at_, commits, now)
    | .bad e => .error e
    | .took n commits' now' => takeAll gen b fuel (at_ + n) commits' now'
/-- The current head: generation, area, side. -/
def current (h0 h1 : B) : Nat × Nat × Nat :=
  match valid h0, valid h1 with
  | none, none => (0, 0, 1)
  | some (g, a), none => (g, a, 0)
  | none, some (g, a) => (g, a, 1)
  | some (g, a), some (g', a') => if g < g' then (g', a', 1) else (g, a, 0)
def recover (m : Img) : Except Int St :=
  if 8388608 < max m.a0.length m.a1.length then .error 3
  else
    let c := current m.h0 m.h1
    let b := m.area c.2.1
    match takeAll c.1 b (b.length + 1) 0 0 [] with
    | .error e => .error e
    | .ok (at_, commits, now) =>
      let base := { (m.setArea c.2.1 (b.take at_)) with h0 := if valid m.h0 = none then [] else m.h0, h1 := if valid m.h1 = none then [] else m.h1 }
      .ok ⟨false, now, [], 0, false, [], commits, c.1, c.2.1, c.2.2, base, base, [], 0⟩
end J
end Go.Proofs.YtojmckbpafkagaaGreatDoor
