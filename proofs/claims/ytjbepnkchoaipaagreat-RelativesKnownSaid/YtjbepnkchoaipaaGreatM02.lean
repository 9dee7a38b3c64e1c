import Derived.Test.YtjbepnkchoaipaaGreatM01
import Derived.Outline
import Derived.Lib.LazyBuf
import Derived.Laws.BitsAllLaws
set_option linter.unusedVariables false
set_option linter.unusedSimpArgs false
/- Contracts of the small functions on bytes: Clip, Clone, copied, put, get, check. -/
namespace Go.Proofs.YtjbepnkchoaipaaGreat
open Go.RowKit
set_option maxRecDepth 100000
theorem By.weak {w : World} {M M' : Nat → Prop} {A : Option Addr} {n : Nat} {l : List UInt8} (h : By w M A n l) (hM : ∀ k, M' k → M k) : By w M' A n l :=
  ⟨h.1, fun hn => by
    obtain ⟨b, o, e, hb, hm, hc⟩ := h.2 hn
    exact ⟨b, o, e, hb, fun h' => hm (hM _ h'), hc⟩⟩
/-- A value that is a slice of bytes, and what it reads as. -/
def Sl (w : World) (M : Nat → Prop) (v : Value) (l : List UInt8) : Prop :=
  (∃ A, v = .slice A 0 0 ∧ l = []) ∨ ∃ b o c, v = .slice (some ⟨b, o, none⟩) l.length c ∧ l.length ≤ c ∧ b < w.heap.size ∧ By w M (some ⟨b, o, none⟩) l.length l
/-- A block of bytes. -/
def U8 (w : World) (b : Nat) : Prop := b < w.heap.size ∧ ∃ (cur : Array Value) (_ : Unit), w.heap[b]? = some (.cells cur 5 (0, 0))
theorem U8.same {w w' : World} {b : Nat} (h : U8 w b) (hs : w.heap.size ≤ w'.heap.size) (hb : w'.heap[b]? = w.heap[b]?) : U8 w' b := by
  obtain ⟨h1, cur, fr, e⟩ := h
  exact ⟨Nat.lt_of_lt_of_le h1 hs, cur, fr, hb.trans e⟩
/-- .. whose capacity is its length. -/
def Slc (w : World) (M : Nat → Prop) (v : Value) (l : List UInt8) : Prop :=
  (v = .slice none 0 0 ∧ l = []) ∨ ∃ b o, v = .slice (some ⟨b, o, none⟩) l.length l.length ∧ l.length ≤ maxLen ∧ U8 w b ∧ ¬ M b ∧ By w M (some ⟨b, o, none⟩) l.length l
section
variable {w w' : World} {M M' : Nat → Prop} {v : Value} {l : List UInt8}
theorem Slc.sl (h : Slc w M v l) : Sl w M v l := by
  rcases h with ⟨h, h'⟩ | ⟨b, o, e, h1, h2, _, h3⟩
  · exact .inl ⟨none, h, h'⟩
  · exact .inr ⟨b, o, _, e, Nat.le_refl _, h2.1, h3⟩
theorem Slc.step (h : Slc w M v l) (hs : Step M M' w w') : Slc w' M' v l := by
  rcases h with h | ⟨b, o, e, h1, h2, hm, h3⟩
  · exact .inl h
  · exact .inr ⟨b, o, e, h1, h2.same hs.size (hs.block b h2.1 hm), fun h => hm (hs.sub b h2.1 h), h3.step hs⟩
theorem Sl.step (h : Sl w M v l) (hs : Step M M' w w') : Sl w' M' v l := by
  rcases h with h | ⟨b, o, c, e, h0, h2, h3⟩
  · exact .inl h
  · exact .inr ⟨b, o, c, e, h0, Nat.lt_of_lt_of_le h2 hs.size, h3.step hs⟩
theorem Sl.weak (h : Sl w M v l) (hM : ∀ k, M' k → M k) : Sl w M' v l := by
  rcases h with h | ⟨b, o, c, e, h0, h2, h3⟩
  · exact .inl h
  · exact .inr ⟨b, o, c, e, h0, h2, h3.weak hM⟩
theorem Slc.weak (h : Slc w M v l) (hM : ∀ k, M' k → M k) : Slc w M' v l := by
  rcases h with h | ⟨b, o, e, h1, h2, hm, h3⟩
  · exact .inl h
  · exact .inr ⟨b, o, e, h1, h2, fun h => hm (hM b h), h3.weak hM⟩
theorem Sl.nil_ : Sl w M (.slice none 0 0) [] := .inl ⟨none, rfl, rfl⟩
theorem Slc.nil_ : Slc w M (.slice none 0 0) [] := .inl ⟨rfl, rfl⟩
theorem Sl.by (h : Sl w M v l) : ∃ A c, v = .slice A l.length c ∧ l.length ≤ c ∧ By w M A l.length l := by
  rcases h with ⟨A, rfl, rfl⟩ | ⟨b, o, c, rfl, h0, _, h3⟩
  · exact ⟨A, 0, rfl, Nat.le_refl _, By.nil_⟩
  · exact ⟨_, c, rfl, h0, h3⟩
end
theorem clipB_any (A : Addr) (n c : Nat) (w : World) (hc : n ≤ c) :
    Calls Tryz.prog 59 #[.slice (some A) n c] w fun e w' => e = .returned (.slice (some A) n n) ∧ w = w' := by
  go_enter Tryz.func59, Tryz.ntmps59
  go_wp2
  go_ret
  exact ⟨rfl, rfl⟩
theorem clipB_nil (w : World) :
    Calls Tryz.prog 59 #[.slice none 0 0] w fun e w' => e = .returned (.slice none 0 0) ∧ w = w' := by
  go_enter Tryz.func59, Tryz.ntmps59
  go_wp2
  go_ret
  exact ⟨rfl, rfl⟩
theorem cloneB_nil (w : World) :
    Calls Tryz.prog 91 #[.slice none 0 0] w fun e w' => e = .returned (.slice none 0 0) ∧ w = w' := by
  have hq := fun w => run_eql_slice_nil (P := Tryz.prog) w 37 5 none 0 0 Tryz.underlying37
  go_enter Tryz.func91, Tryz.ntmps91
  go_wp2
  go_ret
  exact ⟨rfl, rfl⟩
theorem cloneB_at (a : Addr) (c : Nat) (w : World) (M : Nat → Prop) (l : List UInt8) (h : By w M (some a) l.length l) (hl : l.length ≤ 90000000) :
    Calls Tryz.prog 91 #[.slice (some a) l.length c] w fun e w' => ∃ g cap, e = .returned (.slice (some ⟨g, 0, none⟩) l.length cap) ∧ l.length ≤ cap ∧ w.heap.size ≤ g ∧ U8 w' g ∧ By w' (· < w.heap.size) (some ⟨g, 0, none⟩) l.length l ∧ Below w.heap.size w w' := by
  have H := Lib.hid h
  clear h
  have hq := fun w => run_eql_slice_nil (P := Tryz.prog) w 37 5 (some a) l.length c Tryz.underlying37
  go_enter Tryz.func91, Tryz.ntmps91
  have hrow : (w.alloc (.cells #[] 5)).ownsRow w.heap.size 5 1 (.slice (some ⟨w.heap.size, 0, none⟩) 0 0) 0 (u8s []) := World.ownsRow_made w #[] 0 (Nat.le_refl _) (Nat.zero_le _) rfl
  go_wp2_with (refine wpList_app_by rfl _ _ rfl w.heap.size (.slice (some ⟨w.heap.size, 0, none⟩) 0 0) 0 [] rfl hrow M (some a) l.length c l rfl (H.out.alloc _) (by omega) (by simp) ?_)
  intro v' w' hown hg hat hnil
  have hb : Below w.heap.size w w' := ((Below.refl _ _).alloc (Nat.le_refl _) _).grown hg (by simp) (fun k e => by cases e; exact Nat.le_refl _)
  rcases hown.2 with ⟨rfl, _⟩ | ⟨g, cap, cur, rfl, hbase, hbk, h1, h2, h3, h4⟩
  · exact (hnil rfl).elim
  · obtain ⟨A', c', e, hc', hby⟩ := ownsRow_by hown (M := (· < w.heap.size)) (fun k hk => hk)
    injection e with e1 e2 e3
    subst e1 e3
    have HBy := Lib.hid hby
    have HB := Lib.hid hb
    have hgl : U8 w' g := ⟨(Array.getElem?_eq_some_iff.1 hbk).1, cur, (), hbk⟩
    clear hown hg hat hnil hby hb hbk h3 h4 hq hrow
    go_wp2_with fail
    go_ret
    exact ⟨g, cap, rfl, h1, hbase, hgl, HBy.out, HB.out⟩
theorem cloneB_any (b o c : Nat) (w : World) (M : Nat → Prop) (l : List UInt8) (h : By w M (some ⟨b, o, none⟩) l.length l) (hl : l.length ≤ 90000000) :
    Calls Tryz.prog 91 #[.slice (some ⟨b, o, none⟩) l.length c] w fun e w' => ∃ g cap, e = .returned (.slice (some ⟨g, 0, none⟩) l.length cap) ∧ l.length ≤ cap ∧ w.heap.size ≤ g ∧ U8 w' g ∧ By w' (· < w.heap.size) (some ⟨g, 0, none⟩) l.length l ∧ Below w.heap.size w w' :=
  cloneB_at ⟨b, o, none⟩ c w M l h hl
theorem By.max {w : World} {M : Nat → Prop} {A : Option Addr} {n : Nat} {l : List UInt8} (h : By w M A n l) (hn : n ≤ 90000000) : l.length ≤ 90000000 := by rw [h.1]; exact hn
theorem copied_any (v : Value) (l : List UInt8) (w : World) (M : Nat → Prop) (h : Sl w M v l) (hl : l.length ≤ 90000000) :
    Calls Tryz.prog 68 #[v] w fun e w' => ∃ v', e = .returned v' ∧ Slc w' (· < w.heap.size) v' l ∧ Below w.heap.size w w' := by
  have key : ∀ (a : Addr) (c : Nat), l.length ≤ c → By w M (some a) l.length l → Calls Tryz.prog 68 #[.slice (some a) l.length c] w fun e w' => ∃ v', e = .returned v' ∧ Slc w' (· < w.heap.size) v' l ∧ Below w.heap.size w w' := by
    intro a c h0 h3
    have H := Lib.hid h3
    clear h3 h
    go_enter Tryz.func68, Tryz.ntmps68
    go_wp2_with fail
    refine (cloneB_at a c _ M l H.out hl).mono ?_
    rintro e w1 ⟨g, cap, rfl, hc, hg, hg2, hby, hb⟩
    have HBy := Lib.hid hby
    have HB := Lib.hid hb
    clear hby hb
    go_wp2_with fail
    refine (clipB_any _ _ _ _ hc).mono ?_; rintro e w2 ⟨rfl, rfl⟩
    go_wp2_with fail
    go_ret
    exact ⟨_, rfl, .inr ⟨g, 0, rfl, by unfold maxLen; omega, hg2, by show ¬ _ < _; omega, HBy.out⟩, HB.out⟩
  rcases h with ⟨_ | a, rfl, rfl⟩ | ⟨b, o, c, rfl, h0, h2, h3⟩
  · clear key
    go_enter Tryz.func68, Tryz.ntmps68
    go_wp2_with fail
    refine (cloneB_nil _).mono ?_; rintro e w0 ⟨rfl, rfl⟩
    go_wp2_with fail
    refine (clipB_nil _).mono ?_; rintro e w0 ⟨rfl, rfl⟩
    go_wp2_with fail
    go_ret
    exact ⟨_, rfl, Slc.nil_, Below.refl _ _⟩
  · exact key a 0 (Nat.le_refl _) By.nil_
  · exact key _ c h0 h3
end Go.Proofs.YtjbepnkchoaipaaGreat
/- Contracts: put, get, check. -/
namespace Go.Proofs.YtjbepnkchoaipaaGreat
open Go.RowKit
set_option maxRecDepth 100000
theorem take_snocL (l : List UInt8) (k : Nat) (h : k < l.length) : l.take (k + 1) = l.take k ++ [l[k]] := List.take_succ_eq_append_getElem h

theorem chk_bits (s : Nat) (x : UInt8) (hs : s < 4294967296) : (bits BinOp.xor IntKind.u32 (s : Int) ((x.toNat : Int) % 4294967296) * 16777619 % 4294967296) = ((J.chkStep s x : Nat) : Int) := by
  have hx := x.toNat_lt
  have e : ((x.toNat : Int) % 4294967296) = ((x.toNat : Nat) : Int) := by omega
  rw [e, u32_xor_nat _ _ hs (by omega)]
  unfold J.chkStep
  rw [Int.natCast_emod, Int.natCast_mul]; rfl
theorem leV_snoc : ∀ (t : List UInt8) (x : UInt8), J.leV (t ++ [x]) = J.leV t + 256 ^ t.length * x.toNat
  | [], x => by simp [J.leV]
  | b :: t, x => by
    have ih := leV_snoc t x
    simp only [List.cons_append, J.leV, ih, List.length_cons, Nat.pow_succ]
    rw [Nat.mul_add, Nat.mul_assoc, Nat.mul_left_comm, Nat.add_assoc]
theorem get_bits (t : List UInt8) (k : Nat) (x : UInt8) (hk : t.length = k) (h8 : k < 8) : bits BinOp.or IntKind.u64 ((J.leV t : Nat) : Int) (IntKind.u64.wrap (IntKind.u64.wrap (x.toNat : Int) * 2 ^ (8 * k))) = ((J.leV (t ++ [x]) : Nat) : Int) := by
  have hx := x.toNat_lt
  have ht := J.leV_lt t
  rw [hk] at ht
  have hp : (256 : Nat) ^ k = 2 ^ (8 * k) := by rw [show (256 : Nat) = 2 ^ 8 by decide, ← Nat.pow_mul]
  have hle : (2 : Nat) ^ (8 * k) ≤ 2 ^ 56 := Nat.pow_le_pow_right (by decide) (by omega)
  have e56 : (2 : Nat) ^ 56 = 72057594037927936 := by decide
  have hm : x.toNat * 2 ^ (8 * k) ≤ 255 * 2 ^ (8 * k) := Nat.mul_le_mul_right _ (by omega)
  have e1 : IntKind.u64.wrap (x.toNat : Int) = (x.toNat : Int) := IntWalk.u64_in _ (by omega)
  have e2 : ((x.toNat : Int) * 2 ^ (8 * k)) = ((x.toNat * 2 ^ (8 * k) : Nat) : Int) := by rw [Int.natCast_mul, Int.natCast_pow]; rfl
  have e3 : IntKind.u64.wrap ((x.toNat * 2 ^ (8 * k) : Nat) : Int) = ((x.toNat * 2 ^ (8 * k) : Nat) : Int) := IntWalk.u64_in _ (by omega)
  rw [e1, e2, e3, u64_or_nat _ _ (by rw [hp] at ht; omega) (by omega), leV_snoc, hk, hp]
  rw [hp] at ht
  have h4 := Nat.shiftLeft_add_eq_or_of_lt ht x.toNat
  rw [Nat.shiftLeft_eq] at h4
  rw [Nat.or_comm, ← h4, Nat.add_comm, Nat.mul_comm]

theorem check_any (A : Option Addr) (n c : Nat) (l : List UInt8) (w : World) (M : Nat → Prop) (h : By w M A n l) (hn : n ≤ 90000000) :
    Calls Tryz.prog 86 #[.slice A n c] w fun e w' => e = .returned (.int .u32 (J.chk l : Nat)) ∧ w = w' := by
  have H := Lib.hid h
  have hl : l.length = n := h.1
  clear h
  go_enter Tryz.func86, Tryz.ntmps86
  go_wp2
  go_loop [3, 8] (fun s i => ∃ k : Nat, k ≤ n ∧ i = .int .i64 k ∧ s = .int .u32 (J.chk (l.take k) : Nat)) (fun _ i => n - (intOf i).toNat)
  case atStart => exact ⟨0, Nat.zero_le _, rfl, rfl⟩
  case round =>
    obtain ⟨k, hk, rfl, rfl⟩ := hrel
    by_cases hlt : k < n
    · obtain ⟨b, o, rfl, hb, _, hc⟩ := H.out.cell hlt
      have hkl : k < l.length := by omega
      have HS := Lib.hid (take_snocL l k hkl)
      have HC := Lib.hid (J.chk_snoc (l.take k) l[k])
      have HX := Lib.hid (chk_bits (J.chk (l.take k)) l[k] (J.chk_lt _))
      go_wp2
      go_round
      case rel => exact ⟨k + 1, by omega, by go_num, by rw [HS.out, HC.out, HX.out]⟩
      case measure => simp [intOf]; omega
    · go_wp2
      go_ret
      exact ⟨by rw [List.take_of_length_le (by omega)]; rfl, rfl⟩
theorem get_any (A : Option Addr) (n c : Nat) (l : List UInt8) (w : World) (M : Nat → Prop) (h : By w M A n l) (hn : n ≤ 8) :
    Calls Tryz.prog 85 #[.slice A n c] w fun e w' => e = .returned (.int .u64 (J.leV l : Nat)) ∧ w = w' := by
  have H := Lib.hid h
  have hl : l.length = n := h.1
  clear h
  go_enter Tryz.func85, Tryz.ntmps85
  go_wp2
  go_loop [3, 8] (fun s i => ∃ k : Nat, k ≤ n ∧ i = .int .i64 k ∧ s = .int .u64 (J.leV (l.take k) : Nat)) (fun _ i => n - (intOf i).toNat)
  case atStart => exact ⟨0, Nat.zero_le _, rfl, rfl⟩
  case round =>
    obtain ⟨k, hk, rfl, rfl⟩ := hrel
    by_cases hlt : k < n
    · obtain ⟨b, o, rfl, hb, _, hc⟩ := H.out.cell hlt
      have hkl : k < l.length := by omega
      have HS := Lib.hid (take_snocL l k hkl)
      have HX := Lib.hid (get_bits (l.take k) k l[k] (by rw [List.length_take]; omega) (by omega))
      go_wp2
      go_round
      case rel => exact ⟨k + 1, by omega, by go_num, by rw [HS.out, ← HX.out]⟩
      case measure => simp [intOf]; omega
    · go_wp2
      go_ret
      exact ⟨by rw [List.take_of_length_le (by omega)]; rfl, rfl⟩
/-- A row lies where another one lay, or in a new block. -/
def Loc (w : World) (v v' : Value) : Prop := v'.ownBlock = v.ownBlock ∨ ∃ g, v'.ownBlock = some g ∧ w.heap.size ≤ g
theorem grown_next {a b c : World} {v v' : Value} (h : a.grownBy b v.ownBlock) (k : b.grownBy c v'.ownBlock) (hl : Loc a v v') : a.grownBy c v.ownBlock :=
  ⟨k.os.trans h.os, k.tape.trans h.tape, k.output.trans h.output, Nat.le_trans h.size k.size, fun i hi hn => (k.block i (Nat.lt_of_lt_of_le hi h.size) (fun e => by
    rcases hl with hl | ⟨g, hg, hge⟩
    · exact hn (e.trans hl)
    · rw [hg] at e; injection e with e; omega)).trans (h.block i hi hn)⟩
theorem grown_alloc_l {a c : World} {o : Obj} {r : Option Nat} (k : (a.alloc o).grownBy c r) (hr : r ≠ some a.heap.size ∨ True) : a.grownBy c r := by
  have _ := hr
  exact ⟨k.os, k.tape, k.output, Nat.le_trans (by simp) k.size, fun i hi hn => (k.block i (by simp; omega) hn).trans (Below.heap_alloc a o i hi)⟩
theorem put_any (v : Value) (n : Nat) (xs : List UInt8) (x : Nat) (many base : Nat) (w : World) (h : w.ownsRow base 5 1 v n (u8s xs)) (hbase : base ≤ w.heap.size) (hx : x < 18446744073709551616) (hm : many ≤ 8) (hn : n ≤ 90000000) :
    Calls Tryz.prog 105 #[v, .int .u64 x, .int .i64 many] w fun e w' => ∃ v', e = .returned v' ∧ w'.ownsRow base 5 1 v' (n + many) (u8s (xs ++ J.leB x many)) ∧ w.grownBy w' v.ownBlock ∧ Loc w v v' := by
  go_enter Tryz.func105, Tryz.ntmps105
  go_wp2
  go_loopw [0, 9] (fun s i wr => ∃ k : Nat, k ≤ many ∧ i = .int .i64 k ∧ wr.ownsRow base 5 1 s (n + k) (u8s (xs ++ J.leB x k)) ∧ w.grownBy wr v.ownBlock ∧ Loc w v s) (fun _ i _ => many - (intOf i).toNat)
  case atStart => exact ⟨0, Nat.zero_le _, rfl, by simpa [J.leB] using h, World.grownBy.refl w _, .inl rfl⟩
  case round =>
    obtain ⟨k, hk, rfl, hown, hgr, hloc⟩ := hrel
    have HO := Lib.hid hown
    have HG := Lib.hid hgr
    have HL := Lib.hid hloc
    clear hown hgr hloc
    by_cases hlt : k < many
    · have hby : ∀ W : World, By (W.alloc (.cells #[.int .u8 ((x : Int) / 2 ^ (8 * k) % 256)] 5)) NoM (some ⟨W.heap.size, 0, none⟩) 1 [UInt8.ofNat (x / 256 ^ k)] := fun W => ⟨rfl, fun _ => ⟨W.heap.size, 0, rfl, by simp, fun h => h, fun j hj => by
        obtain rfl : j = 0 := by simpa using hj
        rw [Nat.zero_add]
        refine (World.cell?_alloc_new _ _ _ _).trans ?_
        show some _ = some (u8 _)
        congr 1
        show Value.int .u8 _ = Value.int .u8 _
        congr 1
        show _ = ((UInt8.ofNat (x / 256 ^ k)).toNat : Int)
        rw [UInt8.toNat_ofNat', show (256 : Nat) ^ k = 2 ^ (8 * k) by rw [show (256 : Nat) = 2 ^ 8 by decide, ← Nat.pow_mul], Int.natCast_emod, Int.natCast_ediv, Int.natCast_pow]
        rfl⟩⟩
      have HY := Lib.hid hby
      clear hby
      go_wp2_with (at_builtin; refine wpList_app_by rfl _ _ rfl base _ (n + k) (xs ++ J.leB x k) rfl (HO.out.alloc _) NoM (some ⟨wr.heap.size, 0, none⟩) 1 1 [UInt8.ofNat (x / 256 ^ k)] rfl (HY.out _) (by omega) (by have := HG.out.size; simp; omega) ?_)
      intro v' w' hown hg hat hnil
      have HO2 := Lib.hid hown
      have hg2 := grown_next HG.out (grown_alloc_l hg (.inr trivial)) HL.out
      have HG2 := Lib.hid hg2
      have hsz := HG.out.size
      have hl2 : Loc w v v' := by
        rcases hat with e | e
        · rcases HL.out with h | ⟨g, h, h2⟩
          · exact .inl (e.trans h)
          · exact .inr ⟨g, e.trans h, h2⟩
        · exact .inr ⟨_, e, by first | omega | (simp; omega)⟩
      have HL2 := Lib.hid hl2
      clear hown hg hat hnil hg2 hl2
      go_wp2_with fail
      go_roundw
      case rel => exact ⟨k + 1, by omega, by go_num, by rw [J.leB_snoc, ← Nat.add_assoc]; exact HO2.out, HG2.out, HL2.out⟩
      case measure => simp [intOf]; omega
    · obtain rfl : k = many := by omega
      go_wp2
      go_ret
      exact ⟨_, rfl, HO.out, HG.out, HL.out⟩
end Go.Proofs.YtjbepnkchoaipaaGreat
