import Derived.Test.YthjjbaiijelhnaaM32
import Derived.Test.YthjjbaiijelhnaaM45
import Derived.Test.YthjjbaiijelhnaaM46
import Derived.Test.YthjjbaiijelhnaaM49
import Derived.Test.YthjjbaiijelhnaaM48
import Derived.Deep.CutBlock
import Derived.Deep.CutRange
set_option linter.unusedVariables false
set_option linter.unusedSimpArgs false
/- Law 30: JournalsActs. -/
namespace Go.Proofs.Ythjjbaiijelhnaa
open Go.RowKit Go.Lib Go.Maps Go.WideMaps Go.Sort
set_option maxRecDepth 100000
theorem acts_lives (A : Option Addr) (c : Nat) (L : List J.Ac) (pre fr : ByteArray) (w : World) (ha : ActsAt w NoM A L) (hl : L.length ≤ 9223372036854775807) (hv : ∀ a ∈ L, a.val.length ≤ 9223372036854775807) (hs : pre.size + fr.size ≤ 9223372036854775807) (h : 250 < J.units L ∨ 50 < pre.size + fr.size) :
    Calls Try.prog 8 #[.slice A L.length c, .string pre, .string fr] w fun e w' => e = .returned (.bool true) ∧ Below w.heap.size w w' := by
  have hbg := big_any A c L 250 w ha (by decide) hl hv
  have HL := Lib.hid (lives_any w)
  have hsm : wrap64 ((pre.size : Int) + (fr.size : Int)) = (pre.size : Int) + (fr.size : Int) := IntWalk.wrap64_in _ (by omega)
  clear ha hl hv
  by_cases h1 : 250 < J.units L
  · rw [decide_eq_true h1] at hbg
    have HB := Lib.hid hbg
    clear hbg h1 h
    go_enter Try.func8, Try.ntmps8
    go_wp2_with fail
    refine HB.out.mono ?_
    rintro e Y ⟨rfl, hY⟩
    subst hY
    go_wp2_with fail
    refine HL.out.mono ?_
    rintro e w1 ⟨rfl, hb⟩
    go_wp2
    go_ret
    exact ⟨rfl, hb⟩
  · rw [decide_eq_false h1] at hbg
    have HB := Lib.hid hbg
    have h2 : (50 : Int) < (pre.size : Int) + (fr.size : Int) := by have := h.resolve_left h1; omega
    clear hbg h1 h
    go_enter Try.func8, Try.ntmps8
    go_wp2_with fail
    refine HB.out.mono ?_
    rintro e Y ⟨rfl, hY⟩
    subst hY
    go_wp2_with fail
    refine HL.out.mono ?_
    rintro e w1 ⟨rfl, hb⟩
    go_wp2
    go_ret
    exact ⟨rfl, hb⟩
/-- The worlds at the beginning of a round. -/
structure ActI (w0 : World) (p q : Nat) (L : List J.Ac) (k : Nat) (s : J.St) (m : LM) (w : World) : Prop where
  st : ∃ M, StoreR w p M s ∧ ModR w q M m ∧ ∀ k, M k → w0.heap.size ≤ k ∧ k < w.heap.size
  q : w0.heap.size ≤ q
  bel : Below w0.heap.size w0 w
  kept : J.Kept 0 0 (J.units (L.take k)) s m
theorem ActI.next {w0 wr w2 w3 : World} {p q k : Nat} {L : List J.Ac} {M M2 : Nat → Prop} {s2 : J.St} {m2 : LM} (hM : ∀ k, M k → w0.heap.size ≤ k ∧ k < wr.heap.size) (hq : w0.heap.size ≤ q) (hbel : Below w0.heap.size w0 wr)
    (hst2 : StoreR w2 p M2 s2) (hmd2 : ModR w2 q M2 m2) (hs : Step (fun k => M k ∨ k = q) (fun k => M2 k ∨ k = q) wr w2) (hb : Below w2.heap.size w2 w3) (hk : J.Kept 0 0 (J.units (L.take k)) s2 m2) : ActI w0 p q L k s2 m2 w3 := by
  have hmd3 : ModR w2 q (fun k => M2 k ∧ k < w2.heap.size) m2 := by
    obtain ⟨nv, wv, g1, g2, g3, g4⟩ := hmd2
    exact ⟨nv, wv, g1, fun h => g2 h.1, g3.weak (fun k h => h.1), g4.weak (fun k h => h.1)⟩
  refine ⟨⟨fun k => M2 k ∧ k < w2.heap.size, hst2.cap.below hb, hmd3.step (Step.of_below hb), fun k hk => ⟨?_, Nat.lt_of_lt_of_le hk.2 hb.size⟩⟩, hq, ?_, hk⟩
  · by_cases hw : k < wr.heap.size
    · rcases hs.sub k hw (.inl hk.1) with h | h
      · exact (hM k h).1
      · omega
    · have := hbel.size; omega
  · have h1 := below_tr hbel (hs.below hbel.size (fun k hk => hk.elim (fun h => (hM k h).1) (fun e => by omega)))
    exact h1.trans (hb.mono h1.size)
theorem StoreR.asc {w : World} {p : Nat} {M : Nat → Prop} {s : J.St} (h : StoreR w p M s) : J.Asc s.now := by
  obtain ⟨bn, bw, ch, wr, b0, b1, b2, b3, d0, d1, d2, d3, h1, h2, h3, h4⟩ := h
  exact h3.now.elim fun _ h => h.2.1
theorem acts_agrees {w : World} {p : Nat} {M : Nat → Prop} {s : J.St} {m : LM} {v : Value} {u : Nat} (h : StoreR w p M s) (hv : Prs w M v m.now) (hk : J.Kept 0 0 u s m) (hu : u ≤ 540) :
    Calls Try.prog 23 #[.pointer (some ⟨p, 0, none⟩), v, .int .i64 (m.commits : Nat)] w fun e w' => e = .returned (.bool true) ∧ Below w.heap.size w w' := by
  have hg : J.Good u s.now := ⟨hk.bud.kn, hk.bud.vn⟩
  have := agrees_any p M s v w h (by rw [← hk.rel.now]; exact hv.weak (fun _ h => h.elim)) (Nat.le_trans (J.good_len hg h.asc) (by decide)) (J.good_small hg hu)
  rw [← hk.rel.com] at this
  exact this
theorem keysOf_snoc {m : List (J.B × J.B)} {j : Nat} (h : j < m.length) (pre : ByteArray) : keysOf (m.take (j + 1)) pre = keysOf (m.take j) pre ++ (if Lib.hasPrefix m[j].1 pre.data.toList then [m[j].1] else []) := by
  unfold keysOf
  rw [List.take_succ_eq_append_getElem h, List.map_append, List.filter_append]
  congr 1
  simp [List.filter_cons]
theorem afterOf_snoc {m : List (J.B × J.B)} {j : Nat} (h : j < m.length) (pre : ByteArray) (fl : J.B) (same : Bool) : afterOf (m.take (j + 1)) pre fl same = (afterOf (m.take j) pre fl same).or (if Lib.hasPrefix m[j].1 pre.data.toList && aft fl same m[j].1 then some m[j].1 else none) := by
  unfold afterOf
  rw [keysOf_snoc h, List.find?_append]
  congr 1
  cases Lib.hasPrefix m[j].1 pre.data.toList <;> cases ha : aft fl same m[j].1 <;> simp [ha]
/-- What the law has found. -/
structure ActF (X : World) (m : List (J.B × J.B)) (pre : ByteArray) (fl : J.B) (j : Nat) (sv : Value) (a1 a2 : Option J.B) (w : World) : Prop where
  own : w.ownsRow X.heap.size 9 1 sv (keysOf (m.take j) pre).length ((keysOf (m.take j) pre).map encStr)
  a1 : afterOf (m.take j) pre fl true = a1
  a2 : afterOf (m.take j) pre fl false = a2
  bel : Below X.heap.size X w
theorem ActF.skip {X w : World} {m : List (J.B × J.B)} {pre : ByteArray} {fl : J.B} {j : Nat} {sv : Value} {a1 a2 : Option J.B} (h : ActF X m pre fl j sv a1 a2 w) (hj : j < m.length) (hp : Lib.hasPrefix m[j].1 pre.data.toList = false) : ActF X m pre fl (j + 1) sv a1 a2 w := by
  obtain ⟨h1, h2, h3, h4⟩ := h
  refine ⟨?_, by rw [afterOf_snoc hj, hp, h2]; simp, by rw [afterOf_snoc hj, hp, h3]; simp, h4⟩
  rw [keysOf_snoc hj, hp]; simpa using h1
theorem ActF.more {X w w' : World} {m : List (J.B × J.B)} {pre : ByteArray} {fl : J.B} {j : Nat} {sv sv' : Value} {a1 a2 : Option J.B} (h : ActF X m pre fl j sv a1 a2 w) (hj : j < m.length) (hp : Lib.hasPrefix m[j].1 pre.data.toList = true) (ho : w'.ownsRow X.heap.size 9 1 sv' ((keysOf (m.take j) pre).length + 1) ((keysOf (m.take j) pre).map encStr ++ [encStr m[j].1])) (hb : Below X.heap.size X w')
    (b1 b2 : Option J.B) (e1 : a1.or (if aft fl true m[j].1 then some m[j].1 else none) = b1) (e2 : a2.or (if aft fl false m[j].1 then some m[j].1 else none) = b2) : ActF X m pre fl (j + 1) sv' b1 b2 w' := by
  obtain ⟨h1, h2, h3, h4⟩ := h
  refine ⟨?_, by rw [afterOf_snoc hj, hp, h2, Bool.true_and, e1], by rw [afterOf_snoc hj, hp, h3, Bool.true_and, e2], hb⟩
  rw [keysOf_snoc hj, hp]; simpa using ho
theorem afterOf_ne {m : List (J.B × J.B)} (hg : ∀ p ∈ m, ∃ n, p.1 = keyL n) {pre : ByteArray} {fl : J.B} {same : Bool} {k : J.B} (h : afterOf m pre fl same = some k) : k ≠ [] := by
  have h1 := List.mem_of_find?_eq_some h
  unfold keysOf at h1
  obtain ⟨p, hp, rfl⟩ := List.mem_map.1 (List.mem_filter.1 h1).1
  obtain ⟨n, e⟩ := hg p hp
  rw [e]; exact (keyL_ok n).1
theorem zz_none {m : List (J.B × J.B)} (hg : ∀ p ∈ m, ∃ n, p.1 = keyL n) : J.look m [122, 122] = none := by
  rw [J.look_none_iff]
  intro p hp e
  obtain ⟨n, h⟩ := hg p hp
  have h1 := J.keyL_mem n
  rw [← h, e] at h1
  simp only [List.mem_cons, List.not_mem_nil, or_false] at h1
  rcases h1 with h1 | h1 | h1 | h1 | h1 | h1 | h1 | h1 <;> exact absurd h1 (by decide)
theorem lens_le : ∀ (l : List J.B) (n : Nat), (∀ k ∈ l, k.length ≤ n) → Lib.lens l ≤ n * l.length
  | [], _, _ => by simp [Lib.lens]
  | a :: t, n, h => by
    have h1 := lens_le t n (fun k hk => h k (List.mem_cons_of_mem _ hk))
    have h2 := h a List.mem_cons_self
    have : Lib.lens (a :: t) = a.length + Lib.lens t := by simp [Lib.lens]
    rw [this, List.length_cons, Nat.mul_add, Nat.mul_one]; omega
theorem join_small (a : J.B) (t : List J.B) (hn : (a :: t).length ≤ 8) (hk : ∀ k ∈ a :: t, k.length ≤ 300) : (Lib.join (a :: t) [32]).length ≤ 140737488355328 := by
  rw [Lib.join_length]
  have h1 := lens_le (a :: t) 300 hk
  simp only [List.length_cons, List.length_nil] at *
  omega
/-- The strings of a slice, joined: the same for the same strings. -/
theorem join_any (A : Option Addr) (c : Nat) (ks : List J.B) (w : World) (h : StrsAt w A ks) (hc : ks.length ≤ c) (hn : ks.length ≤ 8) (hk : ∀ k ∈ ks, k.length ≤ 300) :
    Calls Try.prog 34 #[.slice A ks.length c, .string ⟨#[32]⟩] w fun e w' => e = .returned (.string ⟨(Lib.join ks [32]).toArray⟩) ∧ Below w.heap.size w w' := by
  cases hks : ks with
  | nil =>
    refine (Try.strings_Join_none A c ⟨#[32]⟩ w).mono ?_
    rintro e w' ⟨rfl, rfl⟩
    exact ⟨rfl, Below.refl _ _⟩
  | cons a t =>
    rw [← hks]
    obtain ⟨g, rfl, hg, hcell⟩ := h (by rw [hks]; simp)
    have hm : (ks.map fun k : J.B => (⟨k.toArray⟩ : ByteArray)).map (·.data.toList) = ks := by
      rw [List.map_map]; conv => rhs; rw [← List.map_id ks]
      exact List.map_congr_left fun k _ => rfl
    have := Try.strings_Join g 0 c (ks.map fun k : J.B => (⟨k.toArray⟩ : ByteArray)) ⟨#[32]⟩ w (fun j x hx => by
      rw [List.getElem?_map] at hx
      obtain ⟨k, hk, rfl⟩ := Option.map_eq_some_iff.1 hx
      obtain ⟨hj, rfl⟩ := List.getElem?_eq_some_iff.1 hk
      rw [Nat.zero_add]; exact hcell j hj) hg (by rw [List.length_map]; omega) (by rw [List.length_map]; exact hc) (by rw [hm, hks]; exact join_small a t (by rw [← hks]; exact hn) (by rw [← hks]; exact hk))
    rw [hm, List.length_map] at this
    exact this
set_option maxHeartbeats 6000000 in
theorem acts_small (A : Option Addr) (c : Nat) (L : List J.Ac) (pre : ByteArray) (fl : J.B) (w : World) (ha : ActsAt w NoM A L) (hu : J.units L ≤ 250) (hv : ∀ a ∈ L, a.val.length ≤ 9223372036854775807) (hpf : pre.size + fl.length ≤ 50) :
    Calls Try.prog 8 #[.slice A L.length c, .string pre, .string ⟨fl.toArray⟩] w fun e w' => e = .returned (.bool true) ∧ Below w.heap.size w w' := by
  have hll : L.length ≤ 250 := Nat.le_trans (J.units_len L) hu
  have hbg := big_any A c L 250 w ha (by decide) (by omega) hv
  rw [decide_eq_false (by omega)] at hbg
  have HBG := Lib.hid hbg
  have HA := Lib.hid ha
  have HU := Lib.hid hu
  have hfs := enc_size fl
  generalize hfr : (⟨fl.toArray⟩ : ByteArray) = fr at hfs
  have HFR := Lib.hid hfr
  have hsm : wrap64 ((pre.size : Int) + (fl.length : Int)) = (pre.size : Int) + (fl.length : Int) := IntWalk.wrap64_in _ (by omega)
  have hle : ¬ (50 : Int) < (pre.size : Int) + (fl.length : Int) := by omega
  clear hbg ha hu hv hfr
  go_enter Try.func8, Try.ntmps8
  go_wp2_with fail
  refine HBG.out.mono ?_
  rintro e Y ⟨rfl, hY⟩
  subst hY
  clear HBG
  go_wp2_with fail
  refine (at_new w w (Below.refl _ _)).mono ?_
  rintro e w1 ⟨p, rfl, hp0⟩
  have hi0 : ActI w p w1.heap.size L 0 J.new J.lm0 (w1.alloc (.cells #[.slice none 0 0, .slice none 0 0, .bool false, .int .i64 0] 69)) := by
    obtain ⟨M, g1, g2, g3⟩ := hp0
    have hb : Below w1.heap.size w1 (w1.alloc (.cells #[.slice none 0 0, .slice none 0 0, .bool false, .int .i64 0] 69)) := (Below.refl _ w1).alloc (Nat.le_refl _) _
    exact ⟨⟨M, g1.below hb, ⟨.slice none 0 0, .slice none 0 0, heap_alloc_new _ _, fun hm => by have := (g2 _ hm).2; omega, Prs.nil_, Prs.nil_⟩, fun k hk => ⟨(g2 k hk).1, Nat.lt_of_lt_of_le (g2 k hk).2 hb.size⟩⟩, g3.size, g3.trans (hb.mono g3.size), J.kept_new 0⟩
  have HI := Lib.hid hi0
  clear hi0 hp0
  go_wp2_with fail
  clear hsm hle
  generalize w1.heap.size = q at HI ⊢
  go_loopw [9] (fun i wr => ∃ (k : Nat) (s : J.St) (m : LM), k ≤ L.length ∧ i = .int .i64 k ∧ Hid (ActI w p q L k s m wr)) (fun i _ => L.length - (intOf i).toNat)
  case atStart => exact ⟨0, J.new, J.lm0, Nat.zero_le _, rfl, HI⟩
  case round =>
    clear HI
    obtain ⟨k, s, m, hk, rfl, HI⟩ := hrel
    by_cases hlt : k < L.length
    · obtain ⟨M, hst, hmd, hM⟩ := HI.out.st
      have hM1 : ∀ k, M k ∨ k = q → w.heap.size ≤ k := fun k hk => hk.elim (fun h => (hM k h).1) (fun e => by rw [e]; exact HI.out.q)
      have hacts := HA.out.old HI.out.bel hM1
      obtain ⟨ba, oa, rfl, hba, hbm, hcs⟩ := hacts (by omega)
      obtain ⟨hc0, hc1, ⟨v, hc2, hsl⟩, hwhat, hkey⟩ := hcs k hlt
      obtain ⟨Av, cv, rfl, _, _⟩ := hsl.by
      have hun := J.units_le L L[k] (List.getElem_mem hlt)
      have HUS := Lib.hid (J.units_snoc L k hlt)
      have HUT := Lib.hid (J.units_take L (k + 1))
      have hbd : Below wr.heap.size wr wr.drew := (Below.refl _ wr).drew
      have hin : DoesIn 0 0 (J.units (L.take k)) (1 + L[k].val.length / 8) p q M s m L[k].key Av L[k].val.length cv L[k].val wr.drew :=
        ⟨hst.below hbd, hmd.step (Step.of_below hbd), fun k h => (hM k h).2, HI.out.kept, ⟨by have := HUT.out; rw [HUS.out] at this; have := HU.out; omega, by have := HUT.out; rw [HUS.out] at this; have := HU.out; omega⟩, (hsl.weak (fun k h => .inl h)).step (Step.of_below hbd), by omega, by have := HU.out; omega, by have := HU.out; omega, hkey⟩
      have HD := Lib.hid (does_any 0 0 (J.units (L.take k)) (1 + L[k].val.length / 8) p q M s m L[k].what L[k].key Av L[k].val.length cv L[k].val wr.drew hin)
      have HM := Lib.hid hM
      have HBM := Lib.hid hbm
      have hwl := L[k].val.length
      clear hin hsl hcs hst hmd hM hM1 hacts hbm hun hwl hbd
      generalize L[k].what = ka at hc0 HD
      generalize L[k].key = kb at hc1 HD
      have HU2 := Lib.hid (show J.units (L.take (k + 1)) = J.units (L.take k) + (1 + L[k].val.length / 8) from HUS.out)
      generalize L[k].val.length = kn at hc2 HD HU2
      clear HUS
      go_upto_region 8 with fail
      refine wp_region_pm 18 (.rd 0 (.rd 1 (.rd 2 (.rd 3 (.rd 4 (.rd 5 (.wr 6 (.rd 7 (.rd 8 (.rd 9 (.rd 10 (.rd 11 (.rd 12 (.rd 13 (.rd 14 (.rd 15 (.rd 16 (.rd 17 .fin)))))))))))))))))) (fun w' => ∀ o, w'.cell? ⟨ba, o, none⟩ = wr.cell? ⟨ba, o, none⟩) (by kernel_rfl) (by kernel_rfl) (fun c a d v w h => by cases d <;> exact h) (fun _ => rfl) ?_
      repeat
        refine wpPm_read (v := ?_) (by rfl) (by rfl) (fun w' hS => ?_) (fun K hK => ?_)
        rotate_left
        · have hc0S := (hS _).trans hc0
          have hc1S := (hS _).trans hc1
          have hc2S := (hS _).trans hc2
          clear hS
          go_simp
          try with_reducible rfl
        go_simp
        refine hK _ ?_
        clear hK K
      refine wpPm_write (by rfl) (fun K hK => ?_)
      go_simp
      refine HD.out.mono ?_
      rintro e w2 ⟨rfl, M2, s2, m2, hst2, hmd2, hk2, hh2, hstep⟩
      have hcB : ∀ o, w2.cell? ⟨ba, o, none⟩ = wr.cell? ⟨ba, o, none⟩ := fun o => hstep.cell (a := ⟨ba, o, none⟩) hba HBM.out
      obtain ⟨nv2, wv2, hrow2, hq2, hnv2, hwv2⟩ := hmd2
      refine hK.out _ _ (fun w' => (∀ o, w'.cell? ⟨ba, o, none⟩ = wr.cell? ⟨ba, o, none⟩) ∧ w'.heap[q]? = some (.cells #[nv2, wv2, .bool m2.opn, .int .i64 (m2.commits : Nat)] 69 (0, 0))) (fun _ h => h.1) ⟨hcB, hrow2⟩ ?_
      clear hK K
      repeat
        refine wpPm_read (v := ?_) (by rfl) (by rfl) (fun w' hS => ?_) (fun K hK => ?_)
        rotate_left
        · have hcq := fun j => cell_of_row w' q j _ _ _ hS.2
          clear hS
          go_simp
          try with_reducible rfl
        go_simp
        refine hK _ ?_
        clear hK K
      have HAG := Lib.hid (acts_agrees hst2 hnv2 hk2 (by have := HUT.out; have := HU.out; have := HU2.out; omega))
      have HI3 := Lib.hid (fun w3 hb3 => ActI.next (L := L) (k := k + 1) (w3 := w3) HM.out HI.out.q HI.out.bel hst2 ⟨nv2, wv2, hrow2, hq2, hnv2, hwv2⟩ ((Step.of_below (Below.refl _ wr).drew).trans hstep) hb3 (by rw [HU2.out]; exact hk2))
      clear hst2 hk2 hh2 hstep hcB hrow2 hq2 hnv2 hwv2 hc0 hc1 hc2 hwhat hkey hba HD HI HM HBM HUT HU2
      show wpList _ _ _ _ _ _
      go_wp2_with fail
      refine HAG.out.mono ?_
      rintro e w3 ⟨rfl, hb3⟩
      have HI4 := Lib.hid (HI3.out _ hb3)
      clear HAG hb3
      go_wp2_with fail
      go_roundw
      case rel => exact ⟨k + 1, s2, m2, by omega, by go_num, HI4⟩
      case measure => simp [intOf]; omega
    · obtain rfl : k = L.length := by omega
      obtain ⟨M, hst, hmd, hM⟩ := HI.out.st
      have hat : At w p s wr := ⟨M, hst, hM, HI.out.bel⟩
      have hkn := HI.out.kept.rel.now
      have hg : J.Good 250 s.now := ⟨HI.out.kept.bud.kn, by have h1 := HI.out.kept.bud.vn; have h2 := HU.out; rw [List.take_length] at h1; omega⟩
      have hasc := hst.asc
      obtain ⟨nv, wv, hrow, hqm, hnv, hwv⟩ := hmd
      obtain ⟨An, cn, rfl, hlc, hatn, _, _⟩ := hnv.slice_
      rw [hkn] at hrow hatn hlc
      have HAT := Lib.hid hat
      have HG := Lib.hid hg
      have HASC := Lib.hid hasc
      have HROW := Lib.hid hrow
      have HPR := Lib.hid hatn
      have hnl := J.good_len hg hasc
      clear hat hg hasc hrow hatn hkn hst hM hqm hnv hwv HI HA HU hlt
      obtain ⟨i0, hi, hz0, hz1, hz2⟩ := info_parts Try.infoS
      go_wp2_with fail
      generalize wr = X at HAT HROW HPR ⊢
      generalize hN : s.now = N at HG HASC HROW HPR hnl hlc ⊢
      have HN := Lib.hid hN
      clear hN
      go_loopw [10, 11, 12, 13] (fun sv fv nv i wr => ∃ (j : Nat) (a1 a2 : Option J.B), j ≤ N.length ∧ i = .int .i64 j ∧ fv = .string ⟨(a1.getD []).toArray⟩ ∧ nv = .string ⟨(a2.getD []).toArray⟩ ∧ Hid (ActF X N pre fl j sv a1 a2 wr)) (fun _ _ _ i _ => N.length - (intOf i).toNat)
      case atStart => exact ⟨0, none, none, Nat.zero_le _, rfl, rfl, rfl, Lib.hid ⟨World.ownsRow_nil _ _ _ _, rfl, rfl, Below.refl _ _⟩⟩
      case round =>
        obtain ⟨j, a1, a2, hj, rfl, rfl, rfl, HF⟩ := hrel
        have hrow := (HF.out.bel.block q (Array.getElem?_eq_some_iff.1 HROW.out).1).trans HROW.out
        have hcq := fun j => cell_of_row wr q j _ _ _ hrow
        by_cases hlt : j < N.length
        · obtain ⟨g, rfl, hg, hcells⟩ := HPR.out (by omega)
          have hc0 := (HF.out.bel.cell (p := ⟨g, j * 2, none⟩) hg).trans (hcells _ _ (prCells_get N j hlt).1)
          have hkn := (HG.out.1 _ (List.getElem_mem hlt))
          have hkk : N[j].1 ≠ [] := by obtain ⟨n, e⟩ := hkn; rw [e]; exact (keyL_ok n).1
          have HMORE := Lib.hid (fun sv' w' => HF.out.more (w' := w') (sv' := sv') hlt)
          have HSKIP := Lib.hid (HF.out.skip hlt)
          clear hcells hg hkn hrow
          generalize N[j].1 = kk at hc0 hkk HMORE HSKIP
          have hpx := Try.strings_HasPrefix ⟨kk.toArray⟩ pre wr
          have hKL := keysOf_len (N.take j) pre
          have hKL2 : (keysOf (N.take j) pre).length ≤ 8 := by rw [List.length_take] at hKL; omega
          have HO := Lib.hid HF.out.own
          have HB := Lib.hid HF.out.bel
          generalize (keysOf (N.take j) pre).length = cnt at HO HMORE hKL2
          clear hKL
          cases hb : Lib.hasPrefix kk pre.data.toList with
          | false =>
            rw [show Lib.hasPrefix (⟨kk.toArray⟩ : ByteArray).data.toList pre.data.toList = false from hb] at hpx
            have HPX := Lib.hid hpx
            clear hpx
            go_wp2_with fail
            refine HPX.out.mono ?_
            rintro e Y ⟨rfl, hY⟩
            obtain rfl : wr = Y := hY.symm
            go_wp2_with fail
            go_roundw
            case rel => exact ⟨j + 1, a1, a2, by omega, by go_num, rfl, rfl, Lib.hid (HSKIP.out hb)⟩
            case measure => simp [intOf]; omega
          | true =>
            rw [show Lib.hasPrefix (⟨kk.toArray⟩ : ByteArray).data.toList pre.data.toList = true from hb] at hpx
            have HPX := Lib.hid hpx
            have HBB := Lib.hid hb
            have HB2 := Lib.hid (HB.out.alloc HB.out.size (.cells #[encStr kk] 9))
            clear hpx hb
            go_wp2_with fail
            refine HPX.out.mono ?_
            rintro e Y ⟨rfl, hY⟩
            obtain rfl : wr = Y := hY.symm
            go_wp2_with (at_builtin; go_loud (refine wpList_append_own _ rfl _ _ 42 rfl X.heap.size 9 i0 (.string ⟨#[]⟩) 1 16 Try.underlying42 hi hz0 hz1 hz2 rfl (by decide) _ _ _ rfl (HO.out.alloc _) ⟨wr.heap.size, 0, none⟩ 1 1 [encStr kk] rfl rfl (cell_one_new _ _ _) (by simp [Value.oneCell', encStr]) (by unfold maxLen; omega) (by omega) (by have := HB2.out.size; simp at this ⊢; omega) ?_))
            intro v' w4 hown' hg3 hnil3
            have HB4 := Lib.hid (HB2.out.grown hg3 HB2.out.size (fun j hj => (HO.out.lt j hj).1))
            have HO4 := Lib.hid hown'
            clear hown' hg3 hnil3 hcq hc0
            have hfrl : fr.toList = fl := by rw [← HFR.out, ByteArray.toList_eq]
            have hn1 : ∀ k, a1 = some k → k ≠ [] := fun k e => afterOf_ne (fun p hp => HG.out.1 p (List.mem_of_mem_take hp)) (HF.out.a1.trans e)
            have hn2 : ∀ k, a2 = some k → k ≠ [] := fun k e => afterOf_ne (fun p hp => HG.out.1 p (List.mem_of_mem_take hp)) (HF.out.a2.trans e)
            have HFRL := Lib.hid hfrl
            have HM2 := Lib.hid (HMORE.out v' w4 HBB.out HO4.out HB4.out _ _ rfl rfl)
            clear hfrl HMORE HSKIP HO HB HO4 HB4 HB2 HPX HF HBB
            rcases aft_cases kk fl _ HFRL.out with ⟨c1, c2, c3⟩ | ⟨c1, c2, c3⟩ | ⟨c1, c2, c3⟩
            all_goals
              have C1 := Lib.hid (c3 true)
              have C2 := Lib.hid (c3 false)
              clear c3
              rcases a1 with _ | k1 <;> rcases a2 with _ | k2
            all_goals
              try have hk1 := hn1 _ rfl
              try have hk2 := hn2 _ rfl
              try have hk1e := List.isEmpty_eq_false_iff.2 hk1
              try have hk2e := List.isEmpty_eq_false_iff.2 hk2
              clear hn1 hn2
              go_wp2_with fail
              go_roundw
              case rel =>
                refine ⟨j + 1, _, _, by omega, by go_num, ?_, ?_, HM2⟩
                · rw [C1.out]; rfl
                · rw [C2.out]; rfl
              case measure => simp [intOf]; omega
        · obtain rfl : j = N.length := by omega
          obtain ⟨h1, h2, h3, h4⟩ := HF.out
          rw [List.take_length] at h1 h2 h3
          have hkl := keysOf_len N pre
          have hn1 : ∀ k, a1 = some k → k ≠ [] := fun k e => afterOf_ne HG.out.1 (h2.trans e)
          have hn2 : ∀ k, a2 = some k → k ≠ [] := fun k e => afterOf_ne HG.out.1 (h3.trans e)
          have hks : ∀ k ∈ keysOf N pre, k.length ≤ 300 := fun k hk => by
            unfold keysOf at hk
            obtain ⟨p, hp, rfl⟩ := List.mem_map.1 (List.mem_filter.1 hk).1
            obtain ⟨n, e⟩ := HG.out.1 p hp
            rw [e]; exact (keyL_ok n).2
          have hst : ∃ B cB, u10 = .slice B (keysOf N pre).length cB ∧ (keysOf N pre).length ≤ cB ∧ StrsAt wr B (keysOf N pre) := by
            have hc := h1
            rcases h1.2 with ⟨rfl, h0⟩ | ⟨g, cap, cur, rfl, hbase, hbk, q1, q2⟩
            · exact ⟨none, 0, by rw [h0], by omega, fun hn => absurd hn (by omega)⟩
            · exact ⟨_, cap, rfl, q1, fun _ => ⟨g, rfl, (Array.getElem?_eq_some_iff.1 hbk).1, fun j hj => by rw [hc.cellAt j (by omega)]; simp [hj]⟩⟩
          obtain ⟨B, cB, rfl, hcB, hsB⟩ := hst
          have HB := Lib.hid h4
          have HSB := Lib.hid hsB
          have HKEYS := Lib.hid (fun W (hb : Below X.heap.size X W) => at_keys (HAT.out.below hb) pre (by rw [HN.out]; omega))
          have HA1 := Lib.hid (fun W (hb : Below X.heap.size X W) => at_after (HAT.out.below hb) pre fl true (by rw [HN.out]; omega))
          have HA2 := Lib.hid (fun W (hb : Below X.heap.size X W) => at_after (HAT.out.below hb) pre fl false (by rw [HN.out]; omega))
          have hzz : J.look s.now [122, 122] = none := by rw [HN.out]; exact zz_none HG.out.1
          have HGT := Lib.hid (fun W (hb : Below X.heap.size X W) => at_getB (HAT.out.below hb) [122, 122] (by decide) (fun l hl => by rw [hzz] at hl; cases hl))
          rw [hzz] at HGT
          rw [HN.out] at HKEYS HA1 HA2
          rw [h2, HFR.out] at HA1
          rw [h3, HFR.out] at HA2
          have HJN := Lib.hid (fun W A c hs hc => join_any A c (keysOf N pre) W hs hc (by omega) hks)
          have HKB := Lib.hid (⟨HAT.out.bel, HAT.out.bel⟩ : Below w.heap.size w X ∧ Below w.heap.size w X)
          generalize keysOf N pre = ks at *
          clear h1 h2 h3 h4 hsB hks hzz hrow HF HROW HPR HG HASC HAT hkl
          go_wp2_with fail
          clear hcq hlt
          refine (HKEYS.out _ HB.out).mono ?_
          rintro e w5 ⟨B5, rfl, hs5, _, hb5⟩
          have HB5 := Lib.hid (HB.out.trans (hb5.mono HB.out.size))
          have HS5 := Lib.hid hs5
          have HSB5 := Lib.hid (HSB.out.below hb5)
          clear hs5 hb5 HKEYS HSB
          go_wp2_with fail
          refine (HA1.out _ HB5.out).mono ?_
          rintro e w6 ⟨rfl, hb6⟩
          have HB6 := Lib.hid (HB5.out.trans (hb6.mono HB5.out.size))
          have HS6 := Lib.hid (HS5.out.below hb6)
          have HSB6 := Lib.hid (HSB5.out.below hb6)
          clear hb6 HA1 HB5 HS5 HSB5
          go_wp2_with fail
          refine (HA2.out _ HB6.out).mono ?_
          rintro e w7 ⟨rfl, hb7⟩
          have HB7 := Lib.hid (HB6.out.trans (hb7.mono HB6.out.size))
          have HS7 := Lib.hid (HS6.out.below hb7)
          have HSB7 := Lib.hid (HSB6.out.below hb7)
          clear hb7 HA2 HB6 HS6 HSB6
          go_wp2_with fail
          refine (HGT.out _ HB7.out).mono ?_
          rintro e w8 ⟨v8, rfl, _, hb8⟩
          have HB8 := Lib.hid (HB7.out.trans (hb8.mono HB7.out.size))
          have HS8 := Lib.hid (HS7.out.below hb8)
          have HSB8 := Lib.hid (HSB7.out.below hb8)
          clear hb8 HGT HB7 HS7 HSB7
          go_wp2_with fail
          refine (HJN.out _ _ _ HS8.out (Nat.le_refl _)).mono ?_
          rintro e w9 ⟨rfl, hb9⟩
          have HB9 := Lib.hid (HB8.out.trans (hb9.mono HB8.out.size))
          have HSB9 := Lib.hid (HSB8.out.below hb9)
          clear hb9 HB8 HS8 HSB8
          go_wp2_with fail
          refine (HJN.out _ _ _ HSB9.out hcB).mono ?_
          rintro e w10 ⟨rfl, hb10⟩
          have HB10 := Lib.hid (HB9.out.trans (hb10.mono HB9.out.size))
          have HLV := Lib.hid (lives_any w10)
          clear hb10 HB9 HSB9 HJN
          generalize Lib.join ks [32] = js
          rcases a1 with _ | k1 <;> rcases a2 with _ | k2
          all_goals
            try have hk1 := hn1 _ rfl
            try have hk2 := hn2 _ rfl
            try have hk1e := List.isEmpty_eq_false_iff.2 hk1
            try have hk2e := List.isEmpty_eq_false_iff.2 hk2
            clear hn1 hn2
            go_wp2_with fail
            refine HLV.out.mono ?_
            rintro e w11 ⟨rfl, hb11⟩
            have HB11 := Lib.hid (HKB.out.1.trans ((HB10.out.trans (hb11.mono HB10.out.size)).mono HKB.out.1.size))
            clear hb11 HB10
            go_wp2_with fail
            go_ret
            exact ⟨rfl, HB11.out⟩
end Go.Proofs.Ythjjbaiijelhnaa
