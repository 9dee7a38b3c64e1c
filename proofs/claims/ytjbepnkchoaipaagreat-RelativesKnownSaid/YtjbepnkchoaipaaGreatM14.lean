import Derived.Test.YtjbepnkchoaipaaGreatM13
import Derived.Test.YtjbepnkchoaipaaGreatLay
import Derived.Sort.OwnSorted
import Derived.Test.YtjbepnkchoaipaaGreatM09
import Derived.Test.YtjbepnkchoaipaaGreatM00
set_option linter.unusedVariables false
set_option linter.unusedSimpArgs false
/- Contract: slices.Sorted(maps.Keys(m)) of a map of slices of bytes. -/
namespace Go.Proofs.YtjbepnkchoaipaaGreat
open Go.RowKit Go.Lib Go.Maps Go.WideMaps Go.Sort Go.Shelf
set_option maxRecDepth 100000
theorem sorts_in (m : Nat) : AnyZ.SortsIn Tryz.prog Tryz.sorted113_ren Fence.wide m :=
  ⟨fun blk off cap ss W hH hblk hsz => callsIn_wide.2 (AnyM.slices_Sort_string Tryz.sort98 blk off cap ss W hH hblk hsz),
   fun p cap W => callsIn_wide.2 (AnyM.slices_Sort_string_none Tryz.sort98 p cap W)⟩
theorem mapsKeys_any (mb : Option Nat) (W : World) : Calls Tryz.prog 114 #[.map mb] W fun e w' => e = .returned (.func (.func 126) #[] #[.pointer (some ⟨W.heap.size, 0, none⟩)]) ∧ w' = W.alloc (.cells #[.map mb] 79) :=
  callsIn_wide.1 (AnyZ.keys_in Tryz.keys114 Fence.wide 5 trivial rfl mb W)
set_option maxHeartbeats 1000000 in
theorem sortedKeys_raw {H : Type} (b nn : Nat) (D0 : DataW H) (R : Value → Option (DataW H × List MemPlace)) (w : World) (hown : w.ownsMap Tryz.prog 9 R b nn D0) (hmax : Maps.size D0 ≤ maxLen) (hbytes : Maps.size D0 * 16 ≤ 140737488355328) :
    Calls Tryz.prog 113 #[.func (.func 126) #[] #[.pointer (some ⟨w.heap.size, 0, none⟩)]] (w.alloc (.cells #[.map (some b)] 79)) fun e w' => ∃ (v : Value) (ss : List (List UInt8)), e = .returned v ∧ ss.Perm (strKeys D0) ∧
      w'.ownsRow (w.alloc (.cells #[.map (some b)] 79)).heap.size 9 1 v ss.length ((ss.mergeSort (fun x y => decide (x ≤ y))).map encStr) ∧ (v = .slice none 0 0 ↔ ss = []) ∧ Below (w.alloc (.cells #[.map (some b)] 79)).heap.size (w.alloc (.cells #[.map (some b)] 79)) w' := by
  have hbl := hown.lt
  have hseq : SeqGives Fence.wide 2 Tryz.prog 126 #[.pointer (some ⟨w.heap.size, 0, none⟩)] encStr (fun ss => ss.Perm (strKeys D0)) (Maps.size D0) (w.alloc (.cells #[.map (some b)] 79)) :=
    AnyZ.keys_gives (ρ := Tryz.keys114_ren) { Tryz.keys114 with } Fence.wide _ trivial rfl (by omega) w.heap.size b nn D0 _ (by simp) (by simp) (by
      obtain ⟨es, clock, hb, Ft, hs, hD⟩ := hown
      exact ⟨es, clock, (Below.heap_alloc _ _ b hbl).trans hb, Ft, hs, hD⟩)
  exact callsIn_wide.1 (AnyZ.sorted_in Tryz.sorted113 Fence.wide 5 trivial trivial trivial trivial rfl (by omega) (sorts_in _) (enters_of Tryz.func98 (by kernel_rfl) rfl) 126 #[.pointer (some ⟨w.heap.size, 0, none⟩)] trivial (enters_of Tryz.func126 (by kernel_rfl) rfl) _ _ hmax hbytes _ hseq)
theorem asc_sorted {m : List (J.B × J.B)} (h : J.Asc m) : (m.map (·.1)).mergeSort (fun x y => decide (x ≤ y)) = m.map (·.1) := by
  refine List.mergeSort_of_pairwise ?_
  rw [List.pairwise_map]
  exact List.Pairwise.imp (fun {a b} hab => by simpa using List.le_of_lt hab) h
/-- The keys of a map, in order. -/
theorem sortedKeys_any (b : Nat) (m : List (J.B × J.B)) (M : Nat → Prop) (w : World) (h : MapR w M b m) (hl : m.length ≤ 100000000) :
    Calls Tryz.prog 113 #[.func (.func 126) #[] #[.pointer (some ⟨w.heap.size, 0, none⟩)]] (w.alloc (.cells #[.map (some b)] 79)) fun e w' => ∃ v, e = .returned v ∧
      w'.ownsRow w.heap.size 9 1 v m.length ((m.map (·.1)).map encStr) ∧ Below w.heap.size w w' := by
  have hm := h
  obtain ⟨D, hown, hasc, hhas, hval⟩ := h
  have hsz : Maps.size D = m.length := hm.size_eq hown hhas
  refine (sortedKeys_raw b (Maps.size D) D vElem w hown (by unfold maxLen; omega) (by omega)).mono ?_
  rintro e w' ⟨v, ss, rfl, hp, hrow, hnil, hb⟩
  have hperm : ss.Perm (m.map (·.1)) := hp.trans (hm.perm D _ hown hhas).symm
  have hs : ss.mergeSort (fun x y => decide (x ≤ y)) = m.map (·.1) := (mergeSort_of_perm hperm).trans (asc_sorted hasc)
  have hlen : ss.length = m.length := by have := hperm.length_eq; rwa [List.length_map] at this
  rw [hs, hlen] at hrow
  have hB : Below w.heap.size w (w.alloc (.cells #[.map (some b)] 79)) := (Below.refl _ w).alloc (Nat.le_refl _) _
  refine ⟨v, rfl, ⟨hrow.1, hrow.2.imp id (fun ⟨g, cap, cur, h1, h2, h3⟩ => ⟨g, cap, cur, h1, Nat.le_trans (by simp) h2, h3⟩)⟩, ?_⟩
  exact ⟨hb.os.trans hB.os, hb.tape.trans hB.tape, hb.output.trans hB.output, Nat.le_trans hB.size hb.size, fun k hk => (hb.block k (Nat.lt_of_lt_of_le hk hB.size)).trans (hB.block k hk)⟩
end Go.Proofs.YtjbepnkchoaipaaGreat
/- Contract: values. -/
namespace Go.Proofs.YtjbepnkchoaipaaGreat
open Go.RowKit Go.Lib Go.Maps Go.WideMaps Go.Sort Go.Shelf
set_option maxRecDepth 100000
theorem Slc.old {w : World} {M : Nat → Prop} {v : Value} {l : List UInt8} (h : Slc w M v l) : Slc w (w.heap.size ≤ ·) v l := by
  rcases h with h | ⟨b, o, e, h1, h2, hm, h3⟩
  · exact .inl h
  · exact .inr ⟨b, o, e, h1, h2, by have := h2.1; show ¬ _ ≤ _; omega, h3.old⟩
theorem values_snoc (m : List (J.B × J.B)) (k : Nat) (h : k < m.length) : J.values (m.take (k + 1)) = J.values (m.take k) ++ [⟨m[k].1, m[k].2, false⟩] := by
  unfold J.values; rw [List.take_succ_eq_append_getElem h, List.map_append]; rfl
/-- A row of another kind is kept where a row grows. -/
theorem own_kept {w W w' : World} {base base' n n' size size' : Nat} {e e' : TypeId} {v v' : Value} {xs xs' : List Value} (h : w.ownsRow base e size v n xs) (h' : w.ownsRow base' e' size' v' n' xs') (hb : Below w.heap.size w W) (hg : W.grownBy w' v'.ownBlock) (hne : e ≠ e') : w'.ownsRow base e size v n xs := by
  refine own_same h (fun k hk => ?_)
  have hlt := (h.lt k hk).2
  refine (hg.block k (Nat.lt_of_lt_of_le hlt hb.size) (fun e2 => ?_)).trans (hb.block k hlt)
  rcases h'.2 with ⟨rfl, _⟩ | ⟨g', cap, cur, rfl, _, hh, _⟩
  · cases e2
  · have : g' = k := by simpa [Value.ownBlock] using e2.symm
    subst this
    exact own_ne_row h hh hne hk
/-- A row of changes is read as changes. -/
theorem ChRow.chs {w : World} {M : Nat → Prop} {base : Nat} {v : Value} {L : List J.Chg} (h : ChRow w M base v L) : ∃ A n c, v = .slice A n c ∧ Chs w NoM A n L ∧ n = L.length := by
  obtain ⟨vs, h1, h2, h3⟩ := h
  rcases h2.2 with ⟨rfl, h0⟩ | ⟨g, cap, cur, rfl, hbase, hb, hc1, hc2, hc3, hc4⟩
  · exact ⟨none, 0, 0, rfl, ⟨h0, fun h => absurd h (by omega)⟩, h0.symm⟩
  · refine ⟨_, _, cap, rfl, ⟨rfl, fun _ => ⟨g, rfl, (Array.getElem?_eq_some_iff.1 hb).1, fun i hi => ?_⟩⟩, rfl⟩
    have hi' : i < vs.length := by omega
    have hcell : ∀ j, j < 3 → w.cell? ⟨g, i * 3 + j, none⟩ = (chCells L vs)[i * 3 + j]? := fun j hj => h2.cellAt (i * 3 + j) (by omega)
    have hget : ∀ (L : List J.Chg) (vs : List Value) (i : Nat) (hi : i < L.length) (hi' : i < vs.length), (chCells L vs)[i * 3]? = some (.string ⟨L[i].key.toArray⟩) ∧ (chCells L vs)[i * 3 + 1]? = some vs[i] ∧ (chCells L vs)[i * 3 + 2]? = some (.bool L[i].gone) := by
      intro L
      induction L with
      | nil => intro vs i hi; simp at hi
      | cons c t ih =>
        intro vs i hi hi'
        cases vs with
        | nil => simp at hi'
        | cons x vs =>
          have e : chCells (c :: t) (x :: vs) = .string ⟨c.key.toArray⟩ :: x :: .bool c.gone :: chCells t vs := rfl
          cases i with
          | zero => rw [e]; exact ⟨rfl, rfl, rfl⟩
          | succ k =>
            have := ih vs k (by simp at hi; omega) (by simp at hi'; omega)
            rw [e, show (k + 1) * 3 = k * 3 + 3 by omega]
            simpa using this
    obtain ⟨e0, e1, e2⟩ := hget L vs i hi hi'
    refine ⟨vs[i], (hcell 0 (by omega)).trans e0, (hcell 1 (by omega)).trans e1, (hcell 2 (by omega)).trans e2, ?_⟩
    exact (h3 i hi hi').sl.weak (fun k h => h.elim)
set_option maxHeartbeats 4000000 in
theorem values_any (b : Nat) (m : List (J.B × J.B)) (M : Nat → Prop) (w : World) (h : MapR w M b m) (hl : m.length ≤ 30000000) (hk : ∀ p ∈ m, p.1.length ≤ maxLen) :
    Calls Tryz.prog 106 #[.map (some b)] w fun e w' => ∃ A n c, e = .returned (.slice A n c) ∧ Chs w' NoM A n (J.values m) ∧ Below w.heap.size w w' := by
  obtain ⟨i0, hi, hz0, hz1, hz2⟩ := info_parts Tryz.infoC
  have hbl := h.lt
  have HH := Lib.hid h
  have HK := Lib.hid hk
  have HKA := Lib.hid (mapsKeys_any (some b) w)
  have HSA := Lib.hid (sortedKeys_any b m M w h (by omega))
  clear h hk
  go_enter Tryz.func106, Tryz.ntmps106
  go_wp2_with fail
  refine HKA.out.mono ?_
  rintro e w1 ⟨rfl, rfl⟩
  go_wp2_with fail
  refine HSA.out.mono ?_
  rintro e w1 ⟨v1, rfl, hown, hb1⟩
  obtain ⟨A1, n1, c1, rfl⟩ := own_slice hown
  have hn1 : n1 = m.length := by
    rcases hown.2 with ⟨e, h0⟩ | ⟨g, cap, cur, e, _⟩
    · injection e with _ e _; omega
    · injection e with _ e _
  subst hn1
  have HO := Lib.hid hown
  have HB := Lib.hid hb1
  clear hown hb1 HKA HSA
  go_wp2_with fail
  go_loopw [3, 10] (fun s i wr => ∃ k : Nat, k ≤ m.length ∧ i = .int .i64 k ∧ ChRow wr (w.heap.size ≤ ·) w.heap.size s (J.values (m.take k)) ∧ wr.ownsRow w.heap.size 9 1 (.slice A1 m.length c1) m.length ((m.map (·.1)).map encStr) ∧ Below w.heap.size w wr) (fun _ i _ => m.length - (intOf i).toNat)
  case atStart => exact ⟨0, Nat.zero_le _, rfl, ChRow.nil_ _ _ _, HO.out, HB.out⟩
  case round =>
    obtain ⟨k, hkm, rfl, hrow, hkeys, hbel⟩ := hrel
    have HR := Lib.hid hrow
    have HKY := Lib.hid hkeys
    have HBL := Lib.hid hbel
    clear hrow hkeys hbel
    by_cases hlt : k < m.length
    · have hmr : MapR wr (w.heap.size ≤ ·) b m := by
        obtain ⟨D, g1, g2, g3, g4⟩ := HH.out
        refine ⟨D, ?_, g2, g3, fun k l hk => ?_⟩
        · obtain ⟨es, clock, q1, q2⟩ := g1
          exact ⟨es, clock, (HBL.out.block b hbl).trans q1, q2⟩
        · obtain ⟨v, d, q1, q2, q3⟩ := g4 k l hk
          exact ⟨v, d, q1, q2, q3.old.step (Step.of_below HBL.out)⟩
      obtain ⟨D, hown, hasc, hhas, hval⟩ := hmr
      have hkl : (m[k].1).length ≤ maxLen := HK.out _ (List.getElem_mem hlt)
      have hkey : keyOf Tryz.prog 9 (.string ⟨m[k].1.toArray⟩) = some (.string m[k].1) := keyOf_string_mk Tryz.underlying9 (by rw [Lib.size_eq]; exact hkl)
      have hcell : wr.cell? ⟨A1.getD ⟨0, 0, none⟩ |>.block, k, none⟩ = some (.string ⟨m[k].1.toArray⟩) ∧ A1 = some ⟨(A1.getD ⟨0, 0, none⟩).block, 0, none⟩ := by
        rcases HKY.out.2 with ⟨e, h0⟩ | ⟨g, cap, cur, e, _⟩
        · omega
        · injection e with e1 _ _
          subst e1
          refine ⟨?_, rfl⟩
          have := HKY.out.cellAt k (by omega)
          show wr.cell? ⟨g, k, none⟩ = _
          rw [this]; simp [hlt, encStr]
      obtain ⟨hcell, hA1⟩ := hcell
      generalize (A1.getD ⟨0, 0, none⟩).block = g at hcell hA1
      subst hA1
      obtain ⟨v, ps, hrun0, hat⟩ := World.ownsMap.lookup hown lawS Tryz.underlying79 (zeroB wr) (show vElem (.slice none 0 0) = some (.nil, []) from rfl) hkey
      have hsl := MapR.look (w := wr) (M := (w.heap.size ≤ ·)) hhas hval hat
      rw [J.look_of_mem m m[k].1 m[k].2 hasc (List.getElem_mem hlt)] at hsl
      obtain ⟨Av, rfl⟩ := hsl.slice_
      have HSL := Lib.hid hsl
      have HVS := Lib.hid (values_snoc m k hlt)
      obtain ⟨vs, hv1, hv2, hv3⟩ := HR.out
      have HV1 := Lib.hid hv1
      have HV2 := Lib.hid hv2
      have HV3 := Lib.hid hv3
      have hlk : (k : Int) < (m.length : Int) := by omega
      have hll : (J.values (m.take k)).length = k := by simp [J.values]; omega
      have HLL := Lib.hid hll
      clear hown hasc hhas hval hat hsl hv1 hv2 hv3 hkl hkey hll
      generalize hmk : m[k].2 = val at hrun0 HSL HVS
      generalize hmk1 : m[k].1 = key at hrun0 HVS hcell
      clear hmk hmk1
      simp only [Option.getD_some] at hrun0
      go_wp2_with (at_builtin; refine wpList_append_own_at _ rfl _ _ 80 rfl w.heap.size 133 i0 _ 3 48 Tryz.underlying80 hi hz0 hz1 hz2 rfl (by decide) _ _ _ rfl (HV2.out.alloc _) ⟨wr.heap.size, 0, none⟩ 1 1 [.string ⟨key.toArray⟩, .slice Av val.length val.length, .bool false] rfl rfl (World.news_of_block (heap_alloc_new wr _)) (by simp [Value.oneCell']) (by rw [HLL.out]; unfold maxLen; omega) (by rw [HLL.out]; omega) (by have := HBL.out.size; simp; omega) ?_)
      intro v' w1 hown' hg3 hnil3 hloc3
      have hb2 : Below wr.heap.size wr (wr.alloc (.cells #[.string ⟨key.toArray⟩, .slice Av val.length val.length, .bool false] 133)) := (Below.refl _ _).alloc (Nat.le_refl _) _
      have hr2 : ChRow w1 (w.heap.size ≤ ·) w.heap.size v' (J.values (m.take (k + 1))) := by
        rw [HVS.out]
        exact ChRow.push (c := ⟨key, val, false⟩) HV1.out HV3.out hb2 hown' hg3 (by simpa using hloc3) ((HSL.out.weak (fun j hj => hj.elim id (fun e => (HV2.out.lt j e).1))).step (Step.of_below hb2))
      have hk2 := own_kept HKY.out HV2.out hb2 hg3 (by decide)
      have hbw := ((HBL.out.trans (hb2.mono HBL.out.size))).grown hg3 (by have := HBL.out.size; simp; omega) (fun j hj => (HV2.out.lt j hj).1)
      have HR3 := Lib.hid hr2
      have HK2 := Lib.hid hk2
      have HBW := Lib.hid hbw
      clear hb2 hr2 hk2 hbw hown' hg3 hnil3 hloc3
      go_wp2_with fail
      go_roundw
      case rel => exact ⟨k + 1, by omega, by go_num, HR3.out, HK2.out, HBW.out⟩
      case measure => simp [intOf]; omega
    · have hkn : k = m.length := by omega
      subst hkn
      have HR2 := HR.out
      rw [List.take_length] at HR2
      obtain ⟨Ar, nr, cr, rfl, hchs, _⟩ := HR2.chs
      have HC := Lib.hid hchs
      clear hchs HR2
      go_wp2
      go_ret
      exact ⟨Ar, nr, cr, rfl, HC.out, HBL.out⟩
end Go.Proofs.YtjbepnkchoaipaaGreat
/- take: a change of a row is read; a store whose map turns. -/
namespace Go.Proofs.YtjbepnkchoaipaaGreat
open Go.RowKit Go.Lib Go.Maps Go.WideMaps
set_option maxRecDepth 100000
theorem ch_cells {L : List J.Chg} {vs : List Value} : ∀ {i : Nat} (hi : i < L.length) (hi' : i < vs.length), (chCells L vs)[i * 3]? = some (.string ⟨L[i].key.toArray⟩) ∧ (chCells L vs)[i * 3 + 1]? = some vs[i] ∧ (chCells L vs)[i * 3 + 2]? = some (.bool L[i].gone) := by
  induction L generalizing vs with
  | nil => intro i hi; simp at hi
  | cons c t ih =>
    intro i hi hi'
    cases vs with
    | nil => simp at hi'
    | cons x vs =>
      have e : chCells (c :: t) (x :: vs) = .string ⟨c.key.toArray⟩ :: x :: .bool c.gone :: chCells t vs := rfl
      cases i with
      | zero => rw [e]; exact ⟨rfl, rfl, rfl⟩
      | succ k =>
        have := ih (vs := vs) (i := k) (by simp at hi; omega) (by simp at hi'; omega)
        rw [e, show (k + 1) * 3 = k * 3 + 3 by omega]
        simpa using this
theorem ChRow.read {w : World} {M : Nat → Prop} {base : Nat} {v : Value} {L : List J.Chg} (h : ChRow w M base v L) {k : Nat} (hk : k < L.length) : ∃ g c x, v = .slice (some ⟨g, 0, none⟩) L.length c ∧ base ≤ g ∧ g < w.heap.size ∧ w.cell? ⟨g, k * 3, none⟩ = some (.string ⟨L[k].key.toArray⟩) ∧ w.cell? ⟨g, k * 3 + 1, none⟩ = some x ∧ w.cell? ⟨g, k * 3 + 2, none⟩ = some (.bool L[k].gone) ∧ Slc w M x L[k].val := by
  obtain ⟨vs, h1, h2, h3⟩ := h
  rcases h2.2 with ⟨rfl, h0⟩ | ⟨g, cap, cur, rfl, hbase, hb, hc1, hc2, hc3, hc4⟩
  · omega
  · have hcell : ∀ j, j < 3 → w.cell? ⟨g, k * 3 + j, none⟩ = (chCells L vs)[k * 3 + j]? := fun j hj => h2.cellAt (k * 3 + j) (by omega)
    obtain ⟨e0, e1, e2⟩ := ch_cells hk (show k < vs.length by omega)
    exact ⟨g, cap, vs[k]'(by omega), rfl, hbase, (Array.getElem?_eq_some_iff.1 hb).1, (hcell 0 (by omega)).trans e0, (hcell 1 (by omega)).trans e1, (hcell 2 (by omega)).trans e2, (h3 k hk (by omega)).weak (fun j hj => .inl hj)⟩
theorem q_fin {w2 w3 : World} {p bn : Nat} {bw : Option Nat} {M : Nat → Prop} {s : J.St} {ch wr b0 b1 b2 b3 d0 d1 d2 d3 : Value} {m : List (J.B × J.B)} (h : Parts w2 M s bn bw ch wr b0 b1 b2 b3 d0 d1 d2 d3) (hp : w2.heap[p]? = some (.cells (stCells s bn bw ch wr b0 b1 b2 b3 d0 d1 d2 d3) 83 (0, 0))) (hm : M p)
    (hg : w2.grownBy w3 (some bn)) (hr : MapR w3 M bn m) : StoreQ w3 p M { s with now := m } ∧ Step M M w2 w3 := by
  have hpl : p < w2.heap.size := (Array.getElem?_eq_some_iff.1 hp).1
  have hne : p ≠ bn := fun e => h.ne hp hm (.inl e)
  exact ⟨⟨bn, bw, ch, wr, b0, b1, b2, b3, d0, d1, d2, d3, (hg.block p hpl (fun e => hne (by injection e))).trans hp, hm, h.map hg hr⟩, Step.of_grown hg (fun k e _ => by cases e; exact h.mbn)⟩
theorem ap_snoc {m mp : List (J.B × J.B)} {L : List J.Chg} {k : Nat} (hk : k < L.length) (h : J.applyAll m (L.take k) = some mp) : J.applyAll m (L.take (k + 1)) = if L[k].gone then (if J.look mp L[k].key = none then none else some (J.del mp L[k].key)) else some (J.ins mp L[k].key L[k].val) := by
  rw [List.take_succ_eq_append_getElem hk, J.applyAll_app, h]
  show J.applyAll mp [L[k]] = _
  rw [J.applyAll_cons]
  rfl
theorem ap_len : ∀ (L : List J.Chg) (m mp : List (J.B × J.B)), J.applyAll m L = some mp → mp.length ≤ m.length + L.length
  | [], m, mp, h => by injection h with h; subst h; simp
  | c :: t, m, mp, h => by
    rw [J.applyAll_cons] at h
    have hd := J.len_del m c.key
    have hi := J.len_ins m c.key c.val
    split at h
    · split at h
      · cases h
      · have := ap_len t _ mp h; simp; omega
    · have := ap_len t _ mp h; simp; omega
theorem ap_none {m : List (J.B × J.B)} {L : List J.Chg} {k : Nat} (h : J.applyAll m (L.take k) = none) : J.applyAll m L = none := by
  conv => lhs; rw [← List.take_append_drop k L]
  rw [J.applyAll_app, h]; rfl
end Go.Proofs.YtjbepnkchoaipaaGreat
