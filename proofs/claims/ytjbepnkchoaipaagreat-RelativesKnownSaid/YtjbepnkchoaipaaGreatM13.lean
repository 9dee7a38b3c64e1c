import Derived.Test.YtjbepnkchoaipaaGreatM11
import Derived.Test.YtjbepnkchoaipaaGreatM08
import Derived.Test.YtjbepnkchoaipaaGreatM12
import Derived.Test.YtjbepnkchoaipaaGreatM04
import Derived.Laws.Rows
set_option linter.unusedVariables false
set_option linter.unusedSimpArgs false
/- Contracts: Put refused. -/
namespace Go.Proofs.YtjbepnkchoaipaaGreat
open Go.RowKit Go.Lib
set_option maxRecDepth 100000
theorem put_shut (p : Nat) (M : Nat → Prop) (s : J.St) (key : ByteArray) (A : Option Addr) (n c : Nat) (w : World) (h : StoreR w p M s) (ho : s.opn = false) :
    Calls Tryz.prog 40 #[.pointer (some ⟨p, 0, none⟩), .string key, .slice A n c] w fun e w' => e = .returned (.int .i64 6) ∧ w = w' := by
  have H := Lib.hid (state_any p M s true w h)
  have HO := Lib.hid ho
  clear ho h
  go_enter Tryz.func40, Tryz.ntmps40
  go_wp2_with fail
  refine H.out.mono ?_
  rintro e w1 ⟨rfl, rfl⟩
  rw [HO.out]
  go_wp2_with fail
  go_ret
  exact ⟨rfl, rfl⟩
theorem put_val (p : Nat) (M : Nat → Prop) (s : J.St) (key : ByteArray) (A : Option Addr) (n c : Nat) (w : World) (h : StoreR w p M s) (ho : s.opn = true) (hk0 : ¬ key.toList = []) (hk : key.size ≤ 300) (hn : 8192 < n) :
    Calls Tryz.prog 40 #[.pointer (some ⟨p, 0, none⟩), .string key, .slice A n c] w fun e w' => e = .returned (.int .i64 3) ∧ w = w' := by
  have H := Lib.hid (state_any p M s true w h)
  have HO := Lib.hid ho
  have hk1 : ¬ (300 : Int) < (key.size : Int) := by omega
  have hn1 : (8192 : Int) < (n : Int) := by omega
  have hk3 : key.toList.isEmpty = false := by simpa using hk0
  clear ho h
  go_enter Tryz.func40, Tryz.ntmps40
  go_wp2_with fail
  refine H.out.mono ?_
  rintro e w1 ⟨rfl, rfl⟩
  rw [HO.out]
  go_wp2_with fail
  all_goals first | (exfalso; exact absurd (by assumption) hk0) | (exfalso; simp_all; done) | (go_ret; exact ⟨rfl, rfl⟩) | trace_state
theorem put_empty (p : Nat) (M : Nat → Prop) (s : J.St) (key : ByteArray) (A : Option Addr) (n c : Nat) (w : World) (h : StoreR w p M s) (ho : s.opn = true) (hk0 : key.toList = []) :
    Calls Tryz.prog 40 #[.pointer (some ⟨p, 0, none⟩), .string key, .slice A n c] w fun e w' => e = .returned (.int .i64 1) ∧ w = w' := by
  have H := Lib.hid (state_any p M s true w h)
  have HO := Lib.hid ho
  have hk3 : key.toList.isEmpty = true := by simpa using hk0
  clear ho h
  go_enter Tryz.func40, Tryz.ntmps40
  go_wp2_with fail
  refine H.out.mono ?_
  rintro e w1 ⟨rfl, rfl⟩
  rw [HO.out]
  go_wp2_with fail
  all_goals first | (exfalso; exact absurd (by assumption) hk0) | (exfalso; simp_all; done) | (go_ret; exact ⟨rfl, rfl⟩) | trace_state
theorem put_long (p : Nat) (M : Nat → Prop) (s : J.St) (key : ByteArray) (A : Option Addr) (n c : Nat) (w : World) (h : StoreR w p M s) (ho : s.opn = true) (hk0 : ¬ key.toList = []) (hk : 300 < key.size) :
    Calls Tryz.prog 40 #[.pointer (some ⟨p, 0, none⟩), .string key, .slice A n c] w fun e w' => e = .returned (.int .i64 1) ∧ w = w' := by
  have H := Lib.hid (state_any p M s true w h)
  have HO := Lib.hid ho
  have hk1 : (300 : Int) < (key.size : Int) := by omega
  have hk3 : key.toList.isEmpty = false := by simpa using hk0
  clear ho h
  go_enter Tryz.func40, Tryz.ntmps40
  go_wp2_with fail
  refine H.out.mono ?_
  rintro e w1 ⟨rfl, rfl⟩
  rw [HO.out]
  go_wp2_with fail
  all_goals first | (exfalso; exact absurd (by assumption) hk0) | (exfalso; simp_all; done) | (go_ret; exact ⟨rfl, rfl⟩) | trace_state
end Go.Proofs.YtjbepnkchoaipaaGreat
/- Contracts: Put accepted; Delete. -/
namespace Go.Proofs.YtjbepnkchoaipaaGreat
open Go.RowKit Go.Lib Go.Maps Go.WideMaps
set_option maxRecDepth 100000
/-- The set of a store's blocks without those that are not made yet. -/
theorem StoreR.cap {w : World} {p : Nat} {M : Nat → Prop} {s : J.St} (h : StoreR w p M s) : StoreR w p (fun k => M k ∧ k < w.heap.size) s := by
  have hl := h.lt
  obtain ⟨bn, bw, ch, wr, b0, b1, b2, b3, d0, d1, d2, d3, h1, h2, h3, h4⟩ := h
  exact ⟨bn, bw, ch, wr, b0, b1, b2, b3, d0, d1, d2, d3, h1, ⟨h2, hl⟩, h3.keep ⟨rfl, rfl, rfl, Nat.le_refl _, fun _ _ _ => rfl, fun _ _ h => h.1⟩ (fun k hk hm _ => ⟨⟨hm, hk⟩, rfl⟩), h4⟩
theorem Step.uncap {w w' : World} {M M' : Nat → Prop} (h : Step (fun k => M k ∧ k < w.heap.size) M' w w') : Step M M' w w' :=
  ⟨h.os, h.tape, h.output, h.size, fun k hk hn => h.block k hk (fun h => hn h.1), fun k hk hm => (h.sub k hk hm).1⟩
theorem Slc.len {w : World} {M : Nat → Prop} {A : Option Addr} {n c : Nat} {l : List UInt8} (h : Slc w M (.slice A n c) l) : l.length = n ∧ c = n := by
  rcases h with ⟨e, rfl⟩ | ⟨b, o, e, _⟩
  · injection e with _ e1 e2; exact ⟨e1.symm, by omega⟩
  · injection e with _ e1 e2; exact ⟨e1.symm, by omega⟩
theorem Slc.slice_ {w : World} {M : Nat → Prop} {v : Value} {l : List UInt8} (h : Slc w M v l) : ∃ A, v = .slice A l.length l.length := by
  rcases h with ⟨rfl, rfl⟩ | ⟨b, o, e, _⟩
  · exact ⟨_, rfl⟩
  · exact ⟨_, e⟩
theorem Sl.slice_ {w : World} {M : Nat → Prop} {v : Value} {l : List UInt8} (h : Sl w M v l) : ∃ A c, v = .slice A l.length c := by
  rcases h with ⟨_, rfl, rfl⟩ | ⟨b, o, c, e, _⟩
  · exact ⟨_, _, rfl⟩
  · exact ⟨_, _, e⟩
set_option maxHeartbeats 4000000 in
/-- Put with arguments that are right: it copies the value, and adds the change. -/
theorem put_ok (p : Nat) (M : Nat → Prop) (s : J.St) (key : ByteArray) (v : Value) (val : List UInt8) (w : World) (h : StoreR w p M s) (ho : s.opn = true) (hk0 : ¬ key.toList = []) (hk : key.size ≤ 300) (hn : val.length ≤ 8192) (M0 : Nat → Prop) (hv : Sl w M0 v val) :
    Calls Tryz.prog 40 #[.pointer (some ⟨p, 0, none⟩), .string key, v] w fun e w' => e = .returned (.int .i64 (J.add s ⟨key.data.toList, val, false⟩).2) ∧ ∃ M', StoreR w' p M' (J.add s ⟨key.data.toList, val, false⟩).1 ∧ Step M M' w w' := by
  have HS := Lib.hid (state_any p M s true w h)
  have HC := Lib.hid (copied_any v val w M0 hv (by omega))
  have HH := Lib.hid h
  have HO := Lib.hid ho
  obtain ⟨A, c, rfl⟩ := hv.slice_
  have hk1 : ¬ (300 : Int) < (key.size : Int) := by omega
  have hn1 : ¬ (8192 : Int) < (val.length : Int) := by omega
  have hk3 : key.toList.isEmpty = false := by simpa using hk0
  clear ho h hv
  go_enter Tryz.func40, Tryz.ntmps40
  go_wp2_with fail
  refine HS.out.mono ?_
  rintro e w1 ⟨rfl, rfl⟩
  rw [HO.out]
  go_wp2_with fail
  all_goals first | (exfalso; exact absurd (by assumption) hk0) | skip
  refine HC.out.mono ?_
  rintro e w1 ⟨v1, rfl, hs1, hb1⟩
  have hs2 : Slc w1 (fun k => M k ∧ k < w.heap.size) v1 val := hs1.weak (fun k h => h.2)
  have hst : StoreR w1 p (fun k => M k ∧ k < w.heap.size) s := HH.out.cap.below hb1
  obtain ⟨A1, rfl⟩ := hs2.slice_
  have hsb : Step (fun k => M k ∧ k < w.heap.size) (fun k => M k ∧ k < w.heap.size) w w1 := Step.of_below hb1
  have HS2 := Lib.hid hs2
  have HST := Lib.hid hst
  have HSB := Lib.hid hsb
  clear hs1 hb1 hs2 hst hsb
  have hkl : key.data.toList.length = key.size := rfl
  have hcl : (⟨key.data.toList, val, false⟩ : J.Chg).len = 3 + key.size + (4 + val.length) := by simp [J.Chg.len, hkl]
  have HCL := Lib.hid hcl
  clear hcl hkl
  go_wp2_with fail
  by_cases hroom : 4194304 - s.size < 3 + key.size + (4 + val.length)
  · refine (add_full p _ s key A1 val.length val.length false w1 HST.out (by omega) (by omega) (by simpa using hroom)).mono ?_
    rintro e w2 ⟨rfl, hs, hst⟩
    have hres : J.add s ⟨key.data.toList, val, false⟩ = ({ s with spoilt := true }, 9) := by unfold J.add; rw [HCL.out, if_pos hroom]
    have HF := Lib.hid hs
    have HG := Lib.hid hst
    have HR := Lib.hid hres
    clear hs hst hres hroom
    go_wp2_with fail
    go_ret
    rw [HR.out]
    exact ⟨rfl, _, HF.out, (HSB.out.trans HG.out).uncap⟩
  · refine (add_put p _ s key A1 val.length val.length val w1 HST.out (by omega) (by omega) HS2.out (by omega) HO.out).mono ?_
    rintro e w2 ⟨rfl, M', hs, hst⟩
    have hres : (J.add s ⟨key.data.toList, val, false⟩).2 = 0 := by unfold J.add; rw [HCL.out, if_neg hroom]
    have HF := Lib.hid hs
    have HG := Lib.hid hst
    have HR := Lib.hid hres
    clear hs hst hres hroom
    go_wp2_with fail
    go_ret
    rw [HR.out]
    exact ⟨rfl, _, HF.out, (HSB.out.trans HG.out).uncap⟩
set_option maxHeartbeats 4000000 in
theorem delete_any (p : Nat) (M : Nat → Prop) (s : J.St) (key : ByteArray) (w : World) (h : StoreR w p M s) (hk : key.size ≤ 1000) :
    Calls Tryz.prog 39 #[.pointer (some ⟨p, 0, none⟩), .string key] w fun e w' => e = .returned (.int .i64 (J.delete s key.data.toList).2) ∧ ∃ M', StoreR w' p M' (J.delete s key.data.toList).1 ∧ Step M M' w w' := by
  have HS := Lib.hid (state_any p M s true w h)
  have HH := Lib.hid h
  obtain ⟨bn, bw, ch, wr, b0, b1, b2, b3, d0, d1, d2, d3, h1, h2, h3, h4⟩ := h
  obtain ⟨D, hown, hasc, hhas, hval⟩ := h3.now
  have HHs := Lib.hid hhas
  have HOw := Lib.hid hown
  have hkey : keyOf Tryz.prog 9 (.string key) = some (.string key.data.toList) := keyOf_string_mk Tryz.underlying9 (by unfold maxLen; omega)
  have HK := Lib.hid hkey
  have hc := fun j => cell_of_row w p j _ _ _ h1
  clear h1 h2 h3 h4 hown hasc hhas hval hkey
  go_enter Tryz.func39, Tryz.ntmps39
  go_wp2_with fail
  refine HS.out.mono ?_
  rintro e w1 ⟨rfl, rfl⟩
  cases ho : s.opn with
  | false =>
    have hres : J.delete s key.data.toList = (s, 6) := by unfold J.delete; rw [if_pos ho]
    have HR := Lib.hid hres
    clear hres
    go_wp2_with fail
    go_ret
    rw [HR.out]
    exact ⟨rfl, M, HH.out, Step.refl _ _⟩
  | true =>
    have HO := Lib.hid ho
    rw [ho] at hc
    clear ho
    go_wp2_with (at_lookup; refine wpList_lookup_own_ok _ rfl _ _ 79 rfl 9 37 lawS Tryz.underlying79 vElem (zeroB _) .nil [] rfl bn _ D rfl HOw.out _ _ rfl HK.out ?_)
    intro v ps hv
    clear hv
    rw [HHs.out]
    cases hl : J.look s.now key.data.toList with
    | none =>
      have hres : J.delete s key.data.toList = (s, 7) := by unfold J.delete; rw [if_neg (by rw [HO.out]; simp), if_pos hl]
      have HR := Lib.hid hres
      clear hres hl
      go_wp2_with fail
      go_ret
      rw [HR.out]
      exact ⟨rfl, M, HH.out, Step.refl _ _⟩
    | some l =>
      have hres : J.delete s key.data.toList = J.add s ⟨key.data.toList, [], true⟩ := by unfold J.delete; rw [if_neg (by rw [HO.out]; simp), if_neg (by rw [hl]; simp)]
      have hkl : key.data.toList.length = key.size := rfl
      have hcl : (⟨key.data.toList, [], true⟩ : J.Chg).len = 3 + key.size := by simp [J.Chg.len, hkl]
      have HR := Lib.hid hres
      have HCL := Lib.hid hcl
      clear hres hl hkl hcl
      go_wp2_with fail
      by_cases hroom : 4194304 - s.size < 3 + key.size
      · refine (add_full p M s key none 0 0 true w HH.out (by omega) (by omega) (by simpa using hroom)).mono ?_
        rintro e w2 ⟨rfl, hs, hst⟩
        have hres : J.add s ⟨key.data.toList, [], true⟩ = ({ s with spoilt := true }, 9) := by unfold J.add; rw [HCL.out, if_pos hroom]
        have HF := Lib.hid hs
        have HG := Lib.hid hst
        have HR2 := Lib.hid hres
        clear hs hst hres hroom
        go_wp2_with fail
        go_ret
        rw [HR.out, HR2.out]
        exact ⟨rfl, _, HF.out, HG.out⟩
      · refine (add_gone p M s key w HH.out (by omega) (by omega) HO.out).mono ?_
        rintro e w2 ⟨rfl, M', hs, hst⟩
        have hres : (J.add s ⟨key.data.toList, [], true⟩).2 = 0 := by unfold J.add; rw [HCL.out, if_neg hroom]
        have HF := Lib.hid hs
        have HG := Lib.hid hst
        have HR2 := Lib.hid hres
        clear hs hst hres hroom
        go_wp2_with fail
        go_ret
        rw [HR.out, HR2.out]
        exact ⟨rfl, _, HF.out, HG.out⟩
end Go.Proofs.YtjbepnkchoaipaaGreat
/- append onto an area of a disk: a row of one's own, or bytes that fill their slice. -/
namespace Go.Proofs.YtjbepnkchoaipaaGreat
open Go.RowKit Go.Lib Go.Maps Go.WideMaps
set_option maxRecDepth 100000
/-- The world behind an append onto an area. -/
structure Appended (w w' : World) (M : Nat → Prop) (v v' : Value) (l : List UInt8) : Prop where
  own : w'.ownsRow 0 5 1 v' l.length (u8s l)
  os : w'.os = w.os
  tape : w'.tape = w.tape
  output : w'.output = w.output
  size : w.heap.size ≤ w'.heap.size
  block : ∀ k, k < w.heap.size → ¬ (M k ∧ v.ownBlock = some k) → w'.heap[k]? = w.heap[k]?
  row : ∀ k, v'.ownBlock = some k → k < w.heap.size → M k ∧ v.ownBlock = some k
theorem run_append_area (w : World) (M : Nat → Prop) (v : Value) (l : List UInt8) (h : Area w M v l) (M2 : Nat → Prop) (A : Option Addr) (m c : Nat) (x : List UInt8) (hx : By w M2 A m x) (h0 : 0 < m) (hb : l.length + m ≤ 100000000) (ty : TypeId) :
    ∃ v' w', (Builtin.append_ #[37, 37] ty #[v, .slice A m c]).run Tryz.prog w = .ok v' w' ∧ Appended w w' M v v' (l ++ x) := by
  have hxl : x.length = m := hx.1
  have own : (w.ownsRow 0 5 1 v l.length (u8s l) ∧ ∀ k, v.ownBlock = some k → M k) → ∃ v' w', (Builtin.append_ #[37, 37] ty #[v, .slice A m c]).run Tryz.prog w = .ok v' w' ∧ Appended w w' M v v' (l ++ x) := by
    rintro ⟨h1, h2⟩
    obtain ⟨v', w', hr, g1, g2, g3, _⟩ := run_append_by w 0 v l.length l h1 M2 A m c x hx hb (Nat.zero_le _) ty
    refine ⟨v', w', hr, by rw [List.length_append, hxl]; exact g1, g2.os, g2.tape, g2.output, g2.size, fun k hk hn => g2.block k hk (fun e => hn ⟨h2 k e.symm, e.symm⟩), fun k e hk => ?_⟩
    rcases g3 with g3 | g3
    · exact ⟨h2 k (g3 ▸ e), g3 ▸ e⟩
    · rw [g3] at e; injection e with e; omega
  rcases h with h | ⟨rfl, rfl⟩ | ⟨b, o, rfl, hm, hbl, hM, hy⟩
  · exact own h
  · exact own ⟨World.ownsRow_nil _ _ _ _, fun k e => by cases e⟩
  · obtain ⟨i0, hi, hz0, hz1, hz2⟩ := info_parts Tryz.infoB
    obtain ⟨ad, rfl, _, _, hc⟩ := hx.at_ h0
    have holds : ∀ j u, (u8s l)[j]? = some u → w.cell? ((⟨b, o, none⟩ : Addr).add j) = some u := by
      intro j u hu
      have hj : j < l.length := by
        by_cases hj : j < l.length
        · exact hj
        · rw [List.getElem?_eq_none (by rw [u8s_len]; omega)] at hu; cases hu
      rw [u8s_get l j hj] at hu
      injection hu with hu; rw [← hu]
      obtain ⟨b', o', e, _, _, hcl⟩ := hy.2 (by omega)
      injection e with e; injection e with e1 e2; subst e1 e2
      rw [add_mk]; exact hcl j hj
    have hnews : ∀ j u, (u8s x)[j]? = some u → w.cell? (ad.add j) = some u := by
      intro j u hu
      have hj : j < x.length := by
        by_cases hj : j < x.length
        · exact hj
        · rw [List.getElem?_eq_none (by rw [u8s_len]; omega)] at hu; cases hu
      rw [u8s_get x j hj] at hu
      injection hu with hu; rw [← hu]; exact hc j hj
    have hge := grownCap_ge w (l.length + m) l.length 5
    have hcm : grownCap w (l.length + m) l.length 5 ≤ maxLen := grownCap_le_maxLen w (l.length + m) l.length 5 (by unfold maxLen; omega)
    have hr := run_append_grow (P := Tryz.prog) w 37 ty 5 i0 (.int .u8 0) Tryz.underlying37 hi hz0 ⟨b, o, none⟩ l.length l.length (u8s l) (by rw [u8s_len, hz1, Nat.mul_one]) holds ad m c (u8s x) (by rw [u8s_len, hz1, hxl, Nat.mul_one]) hnews (by omega) (by omega) (by rw [hz2]; exact growslice_fits (by omega) (by omega))
    refine ⟨_, _, hr, ?_, rfl, rfl, rfl, by simp, fun k hk _ => heap_alloc_old w.drew _ hk, fun k e hk => ?_⟩
    · have hlen : (u8s (l ++ x)).length = (l.length + m) * 1 := by rw [u8s_len, List.length_append, hxl, Nat.mul_one]
      rw [show (l ++ x).length = l.length + m by rw [List.length_append, hxl]]
      refine ⟨hlen, .inr ⟨w.heap.size, _, _, rfl, Nat.zero_le _, heap_alloc_new w.drew _, hge, hcm, ?_, ?_⟩⟩
      · have hcs : (Value.int .u8 0).cells.size = 1 := rfl
        simp only [Array.size_append, List.size_toArray, size_zeroCells, hcs, u8s_len, hxl, Nat.mul_one]
        omega
      · simp only [Array.toList_append, List.append_assoc]
        rw [← List.append_assoc, ← u8s_app]
        rw [show (l.length + m) * 1 = (u8s (l ++ x)).length from hlen.symm]
        exact List.take_left
    · simp [Value.ownBlock] at e
      omega
end Go.Proofs.YtjbepnkchoaipaaGreat
/- The parts of a store where its writes or an area of its disk turn. -/
namespace Go.Proofs.YtjbepnkchoaipaaGreat
open Go.RowKit Go.Lib Go.Maps Go.WideMaps
set_option maxRecDepth 100000
theorem Tryz.infoW : (Tryz.prog.info? 111).map (fun i => (i.zero, i.size, i.bytes)) = some (some (.agg #[.int .u8 0, .int .i64 0, .slice none 0 0]), 3, 40) := by kernel_rfl
theorem wrCells_snoc (L : List J.Wr) (vs : List Value) (wr : J.Wr) (x : Value) (h : vs.length = L.length) : wrCells (L ++ [wr]) (vs ++ [x]) = wrCells L vs ++ [.int .u8 (wr.kind : Nat), .int .i64 (wr.idx : Nat), x] := by
  unfold wrCells
  rw [List.zip_append h.symm]
  simp
/-- A store without what its numbers owe. -/
def StoreQ (w : World) (p : Nat) (M : Nat → Prop) (s : J.St) : Prop :=
  ∃ (bn : Nat) (bw : Option Nat) (ch wr b0 b1 b2 b3 d0 d1 d2 d3 : Value),
    w.heap[p]? = some (.cells (stCells s bn bw ch wr b0 b1 b2 b3 d0 d1 d2 d3) 83 (0, 0)) ∧ M p ∧ Parts w M s bn bw ch wr b0 b1 b2 b3 d0 d1 d2 d3
theorem StoreR.q {w : World} {p : Nat} {M : Nat → Prop} {s : J.St} (h : StoreR w p M s) : StoreQ w p M s ∧ Ok s := by
  obtain ⟨bn, bw, ch, wr, b0, b1, b2, b3, d0, d1, d2, d3, h1, h2, h3, h4⟩ := h
  exact ⟨⟨bn, bw, ch, wr, b0, b1, b2, b3, d0, d1, d2, d3, h1, h2, h3⟩, h4⟩
theorem StoreQ.r {w : World} {p : Nat} {M : Nat → Prop} {s : J.St} (h : StoreQ w p M s) (h4 : Ok s) : StoreR w p M s := by
  obtain ⟨bn, bw, ch, wr, b0, b1, b2, b3, d0, d1, d2, d3, h1, h2, h3⟩ := h
  exact ⟨bn, bw, ch, wr, b0, b1, b2, b3, d0, d1, d2, d3, h1, h2, h3, h4⟩
theorem StoreQ.below {w w' : World} {p : Nat} {M : Nat → Prop} {s : J.St} (h : StoreQ w p M s) (hb : Below w.heap.size w w') : StoreQ w' p M s := by
  obtain ⟨bn, bw, ch, wr, b0, b1, b2, b3, d0, d1, d2, d3, h1, h2, h3⟩ := h
  exact ⟨bn, bw, ch, wr, b0, b1, b2, b3, d0, d1, d2, d3, (hb.block p (Array.getElem?_eq_some_iff.1 h1).1).trans h1, h2, h3.below hb⟩
theorem StoreQ.lt {w : World} {p : Nat} {M : Nat → Prop} {s : J.St} (h : StoreQ w p M s) : p < w.heap.size ∧ M p := by
  obtain ⟨bn, bw, ch, wr, b0, b1, b2, b3, d0, d1, d2, d3, h1, h2, _⟩ := h
  exact ⟨(Array.getElem?_eq_some_iff.1 h1).1, h2⟩
theorem StoreQ.cap {w : World} {p : Nat} {M : Nat → Prop} {s : J.St} (h : StoreQ w p M s) : StoreQ w p (fun k => M k ∧ k < w.heap.size) s := by
  have hl := h.lt.1
  obtain ⟨bn, bw, ch, wr, b0, b1, b2, b3, d0, d1, d2, d3, h1, h2, h3⟩ := h
  exact ⟨bn, bw, ch, wr, b0, b1, b2, b3, d0, d1, d2, d3, h1, ⟨h2, hl⟩, h3.keep ⟨rfl, rfl, rfl, Nat.le_refl _, fun _ _ _ => rfl, fun _ _ h => h.1⟩ (fun k hk hm _ => ⟨⟨hm, hk⟩, rfl⟩)⟩
section
variable {w w' : World} {M M' : Nat → Prop} {s : J.St} {bn : Nat} {bw : Option Nat} {ch wr b0 b1 b2 b3 d0 d1 d2 d3 : Value}
/-- A write is added to the row of the writes. -/
theorem WrRow.push {W w1 : World} {v v' x : Value} {L : List J.Wr} {c : J.Wr} {vs : List Value} (h1 : vs.length = L.length) (h3 : ∀ i (h : i < L.length) (h' : i < vs.length), Sl w M vs[i] L[i].bs) (hm : ∀ k, v.ownBlock = some k → M k)
    (hb : Below w.heap.size w W) (hown : w1.ownsRow 0 111 3 v' (L.length + 1) (wrCells L vs ++ [.int .u8 (c.kind : Nat), .int .i64 (c.idx : Nat), x])) (hg : W.grownBy w1 v.ownBlock) (hl : v'.ownBlock = v.ownBlock ∨ v'.ownBlock = some W.heap.size)
    (hx : Sl w M x c.bs) : WrRow w1 (fun k => M k ∨ v'.ownBlock = some k) v' (L ++ [c]) ∧ Step M (fun k => M k ∨ v'.ownBlock = some k) w w1 := by
  have hs : Step M (fun k => M k ∨ v'.ownBlock = some k) w w1 := by
    refine ⟨hg.os.trans hb.os, hg.tape.trans hb.tape, hg.output.trans hb.output, Nat.le_trans hb.size hg.size, fun k hk hn => ?_, fun k hk e => ?_⟩
    · exact (hg.block k (Nat.lt_of_lt_of_le hk hb.size) (fun e => hn (hm k e.symm))).trans (hb.block k hk)
    · rcases e with e | e
      · exact e
      · rcases hl with e' | e'
        · exact hm k (e' ▸ e)
        · rw [e'] at e; injection e with e; have := hb.size; omega
  refine ⟨⟨vs ++ [x], by simp [h1], ?_, fun k e => .inr e, fun i hi hi' => ?_⟩, hs⟩
  · rw [wrCells_snoc _ _ _ _ h1]; simpa using hown
  · by_cases e : i < L.length
    · rw [List.getElem_append_left e, List.getElem_append_left (by omega)]
      exact (h3 i e (by omega)).step hs
    · have : i = L.length := by simp at hi; omega
      subst this
      rw [List.getElem_append_right (by omega), List.getElem_append_right (by omega)]
      simp only [h1, Nat.sub_self, List.getElem_singleton]
      exact hx.step hs
/-- The row of the writes turns. -/
theorem Parts.wrTurn {L : List J.Wr} {v' : Value} {n : Nat} (h : Parts w M s bn bw ch wr b0 b1 b2 b3 d0 d1 d2 d3) (hs : Step M M' w w') (hsub : ∀ k, M k → M' k) (hg : ∀ k, k < w.heap.size → wr.ownBlock ≠ some k → w'.heap[k]? = w.heap[k]?) (hc : WrRow w' M' v' L) :
    Parts w' M' { s with writes := L, logged := n } bn bw ch v' b0 b1 b2 b3 d0 d1 d2 d3 := by
  obtain ⟨vs, g1, g2, g3, g4⟩ := h.wrs
  have hrow : ∀ {e : TypeId} {v : Value} {base size n : Nat} {xs : List Value}, e ≠ 111 → w.ownsRow base e size v n xs → ∀ k, v.ownBlock = some k → wr.ownBlock ≠ some k := by
    intro e v base size n xs he hr k hk hck
    rcases g2.2 with ⟨rfl, _⟩ | ⟨g', cap, cur, rfl, _, hh, _⟩
    · simp [Value.ownBlock] at hck
    · have : g' = k := by simpa [Value.ownBlock] using hck
      subst this
      exact own_ne_row hr hh he hk
  have harea : ∀ {v : Value} {l : List UInt8}, Area w M v l → ∀ k, v.ownBlock = some k → wr.ownBlock ≠ some k := by
    intro v l ha k hk
    rcases ha with ⟨h1, _⟩ | ⟨rfl, _⟩ | ⟨b, o, rfl, _, hb, hy, _⟩
    · exact hrow (by decide) h1 k hk
    · cases hk
    · simp [Value.ownBlock] at hk; subst hk; exact fun e => hy (g3 _ e)
  refine ⟨h.now.step hs (hg bn h.now.lt (own_ne_map g2 h.now)), hsub _ h.mbn, ?_, h.chs.keep hs h.mch (fun k e => ?_), fun k e => hsub _ (h.mch k e), hc, h.f0.step hs, h.f1.step hs, h.f2.step hs, h.f3.step hs, h.e0.step hs, h.e1.step hs,
    h.e2.keep hs (fun k _ m => hsub k m) (fun k e _ => hg k (area_lt h.e2 k e) (harea h.e2 k e)), h.e3.keep hs (fun k _ m => hsub k m) (fun k e _ => hg k (area_lt h.e3 k e) (harea h.e3 k e)),
    fun k e2 e3 m => h.dd k e2 e3 (hs.sub k (area_lt h.e2 k e2) m)⟩
  · cases bw with
    | none => exact h.was
    | some b => obtain ⟨q1, q2, q3, q4⟩ := h.was; exact ⟨q1, q2.step hs (hg b q2.lt (own_ne_map g2 q2)), hsub _ q3, q4⟩
  · obtain ⟨vs', _, h2, _⟩ := h.chs; exact hg k (h2.lt k e).2 (hrow (by decide) h2 k e)
/-- What a row of another kind lies in is no area's row. -/
theorem area_ne_row {v v2 : Value} {l : List UInt8} {e : TypeId} {base size n : Nat} {xs : List Value} (ha : Area w M v l) (h2 : w.ownsRow base e size v2 n xs) (he : e ≠ 5) (hm : ∀ k, v2.ownBlock = some k → M k) : ∀ k, v2.ownBlock = some k → ¬ (M k ∧ v.ownBlock = some k) := by
  rintro k e2 ⟨mk, e1⟩
  rcases ha with ⟨h1, _⟩ | ⟨rfl, _⟩ | ⟨b, o, rfl, _, hb, hy, _⟩
  · rcases h1.2 with ⟨rfl, _⟩ | ⟨g', cap, cur, rfl, _, hh, _⟩
    · cases e1
    · have : g' = k := by simpa [Value.ownBlock] using e1
      subst this
      exact own_ne_row h2 hh he e2
  · cases e1
  · simp [Value.ownBlock] at e1; subst e1; exact hy mk
/-- The first area turns. -/
theorem Parts.a0Turn {l : List UInt8} {v' : Value} (h : Parts w M s bn bw ch wr b0 b1 b2 b3 d0 d1 d2 d3) (ha : Appended w w' M d2 v' l) :
    Parts w' (fun k => M k ∨ v'.ownBlock = some k) { s with disk := { s.disk with a0 := l } } bn bw ch wr b0 b1 b2 b3 d0 d1 v' d3 ∧ Step M (fun k => M k ∨ v'.ownBlock = some k) w w' := by
  have hs : Step M (fun k => M k ∨ v'.ownBlock = some k) w w' := ⟨ha.os, ha.tape, ha.output, ha.size, fun k hk hn => ha.block k hk (fun e => hn e.1), fun k hk e => e.elim id (fun e => (ha.row k e hk).1)⟩
  have hsub : ∀ k, M k → M k ∨ v'.ownBlock = some k := fun k => .inl
  have hmap : ∀ {b : Nat} {m : List (J.B × J.B)}, MapR w M b m → M b → ¬ (M b ∧ d2.ownBlock = some b) := fun hm mb e => area_ne_map h.e2 hm mb e.2
  refine ⟨⟨h.now.step hs (ha.block bn h.now.lt (hmap h.now h.mbn)), hsub _ h.mbn, ?_, h.chs.keep hs h.mch (fun k e => ?_), fun k e => hsub _ (h.mch k e), h.wrs.keep hs (fun k e => ?_) (fun k e => ?_), h.f0.step hs, h.f1.step hs, h.f2.step hs, h.f3.step hs, h.e0.step hs, h.e1.step hs,
    .inl ⟨ha.own, fun k e => .inr e⟩, h.e3.keep hs (fun k _ m => hsub k m) (fun k e m => ha.block k (area_lt h.e3 k e) (fun e2 => h.dd k e2.2 e m)), fun k e2 e3 m => ?_⟩, hs⟩
  · cases bw with
    | none => exact h.was
    | some b => obtain ⟨q1, q2, q3, q4⟩ := h.was; exact ⟨q1, q2.step hs (ha.block b q2.lt (hmap q2 q3)), hsub _ q3, q4⟩
  · obtain ⟨vs', _, h2, _⟩ := h.chs; exact ha.block k (h2.lt k e).2 (area_ne_row h.e2 h2 (by decide) h.mch k e)
  · obtain ⟨vs', _, _, h2, _⟩ := h.wrs; exact hsub _ (h2 k e)
  · obtain ⟨vs', _, h2, hm, _⟩ := h.wrs; exact ha.block k (h2.lt k e).2 (area_ne_row h.e2 h2 (by decide) hm k e)
  · have hk := area_lt h.e3 k e3
    have := ha.row k e2 hk
    exact h.dd k this.2 e3 this.1
/-- The second area turns. -/
theorem Parts.a1Turn {l : List UInt8} {v' : Value} (h : Parts w M s bn bw ch wr b0 b1 b2 b3 d0 d1 d2 d3) (ha : Appended w w' M d3 v' l) :
    Parts w' (fun k => M k ∨ v'.ownBlock = some k) { s with disk := { s.disk with a1 := l } } bn bw ch wr b0 b1 b2 b3 d0 d1 d2 v' ∧ Step M (fun k => M k ∨ v'.ownBlock = some k) w w' := by
  have hs : Step M (fun k => M k ∨ v'.ownBlock = some k) w w' := ⟨ha.os, ha.tape, ha.output, ha.size, fun k hk hn => ha.block k hk (fun e => hn e.1), fun k hk e => e.elim id (fun e => (ha.row k e hk).1)⟩
  have hsub : ∀ k, M k → M k ∨ v'.ownBlock = some k := fun k => .inl
  have hmap : ∀ {b : Nat} {m : List (J.B × J.B)}, MapR w M b m → M b → ¬ (M b ∧ d3.ownBlock = some b) := fun hm mb e => area_ne_map h.e3 hm mb e.2
  refine ⟨⟨h.now.step hs (ha.block bn h.now.lt (hmap h.now h.mbn)), hsub _ h.mbn, ?_, h.chs.keep hs h.mch (fun k e => ?_), fun k e => hsub _ (h.mch k e), h.wrs.keep hs (fun k e => ?_) (fun k e => ?_), h.f0.step hs, h.f1.step hs, h.f2.step hs, h.f3.step hs, h.e0.step hs, h.e1.step hs,
    h.e2.keep hs (fun k _ m => hsub k m) (fun k e m => ha.block k (area_lt h.e2 k e) (fun e2 => h.dd k e e2.2 m)), .inl ⟨ha.own, fun k e => .inr e⟩, fun k e2 e3 m => ?_⟩, hs⟩
  · cases bw with
    | none => exact h.was
    | some b => obtain ⟨q1, q2, q3, q4⟩ := h.was; exact ⟨q1, q2.step hs (ha.block b q2.lt (hmap q2 q3)), hsub _ q3, q4⟩
  · obtain ⟨vs', _, h2, _⟩ := h.chs; exact ha.block k (h2.lt k e).2 (area_ne_row h.e3 h2 (by decide) h.mch k e)
  · obtain ⟨vs', _, _, h2, _⟩ := h.wrs; exact hsub _ (h2 k e)
  · obtain ⟨vs', _, h2, hm, _⟩ := h.wrs; exact ha.block k (h2.lt k e).2 (area_ne_row h.e3 h2 (by decide) hm k e)
  · have hk := area_lt h.e2 k e2
    have := ha.row k e3 hk
    exact h.dd k e2 this.2 this.1
end
end Go.Proofs.YtjbepnkchoaipaaGreat
/- Contracts: New, Writes, copiedImage, Image. -/
namespace Go.Proofs.YtjbepnkchoaipaaGreat
open Go.RowKit Go.Lib Go.Maps Go.WideMaps
set_option maxRecDepth 100000
theorem writes_any (p : Nat) (M : Nat → Prop) (s : J.St) (w : World) (h : StoreR w p M s) :
    Calls Tryz.prog 20 #[.pointer (some ⟨p, 0, none⟩)] w fun e w' => e = .returned (.int .i64 (s.writes.length : Nat)) ∧ w = w' := by
  have H := Lib.hid h
  obtain ⟨bn, bw, ch, wr, b0, b1, b2, b3, d0, d1, d2, d3, h1, h2, h3, h4⟩ := h
  obtain ⟨vs, _, g2, _⟩ := h3.wrs
  obtain ⟨A, c, rfl⟩ : ∃ A c, wr = .slice A s.writes.length c := by
    rcases g2.2 with ⟨rfl, h0⟩ | ⟨g', cap, cur, rfl, _⟩
    · exact ⟨none, 0, by rw [h0]⟩
    · exact ⟨_, _, rfl⟩
  have hc := fun j => cell_of_row w p j _ _ _ h1
  clear h1 h2 h3 h4 g2
  go_enter Tryz.func20, Tryz.ntmps20
  go_wp2_with fail
  refine (ready_any p M s _ H.out).mono ?_
  rintro e w1 ⟨rfl, rfl⟩
  go_wp2
  go_ret
  exact ⟨rfl, rfl⟩
/-- An image as a value. -/
abbrev imgW (h0 h1 a0 a1 : Value) : Value := .agg #[h0, h1, a0, a1]
/-- A value that is an image of one's own: four slices that fill themselves. -/
def ImgC (w : World) (M : Nat → Prop) (v : Value) (m : J.Img) : Prop := ∃ h0 h1 a0 a1, v = imgW h0 h1 a0 a1 ∧ Slc w M h0 m.h0 ∧ Slc w M h1 m.h1 ∧ Slc w M a0 m.a0 ∧ Slc w M a1 m.a1
theorem ImgC.step {w w' : World} {M M' : Nat → Prop} {v : Value} {m : J.Img} (h : ImgC w M v m) (hs : Step M M' w w') : ImgC w' M' v m := by
  obtain ⟨h0, h1, a0, a1, rfl, q0, q1, q2, q3⟩ := h
  exact ⟨h0, h1, a0, a1, rfl, q0.step hs, q1.step hs, q2.step hs, q3.step hs⟩
theorem below_trans {a b c : World} {n : Nat} (hn : n ≤ a.heap.size) (h : Below n a b) (k : Below b.heap.size b c) : Below n a c :=
  ⟨k.os.trans h.os, k.tape.trans h.tape, k.output.trans h.output, Nat.le_trans h.size k.size, fun i hi => (k.block i (Nat.lt_of_lt_of_le hi (Nat.le_trans hn h.size))).trans (h.block i hi)⟩
/-- The two boxes of copiedImage. -/
def CpStay (w0 : World) (I R : Array Value) (w : World) : Prop := w.heap[w0.heap.size]? = some (.cells I 67 (0, 0)) ∧ w.heap[w0.heap.size + 1]? = some (.cells R 67 (0, 0)) ∧ Below w0.heap.size w0 w
theorem imgc_start (w : World) (I R : Array Value) : CpStay w I R ((w.alloc (.cells I 67)).alloc (.cells R 67)) := by
  refine ⟨?_, ?_, ((Below.refl _ w).alloc (Nat.le_refl _) _).alloc (by simp) _⟩
  · rw [Below.heap_alloc _ _ _ (by simp)]; exact heap_alloc_new _ _
  · have := heap_alloc_new (w.alloc (.cells I 67)) (.cells R 67)
    simpa using this
section
variable {w0 w w' : World} {I R : Array Value}
theorem CpStay.lt (h : CpStay w0 I R w) : w0.heap.size + 1 + 1 ≤ w.heap.size := (Array.getElem?_eq_some_iff.1 h.2.1).1
theorem CpStay.drew (h : CpStay w0 I R w) : CpStay w0 I R w.drew := ⟨h.1, h.2.1, h.2.2.drew⟩
theorem CpStay.below (h : CpStay w0 I R w) (hb : Below w.heap.size w w') : CpStay w0 I R w' := by
  have := h.lt
  exact ⟨(hb.block _ (by omega)).trans h.1, (hb.block _ (by omega)).trans h.2.1, below_trans (Nat.le_refl _) h.2.2 hb⟩
theorem cp_sl {M : Nat → Prop} {v : Value} {l : List UInt8} (h : CpStay w0 I R w) (hs : Sl w0 M v l) : Sl w M v l := hs.step (Step.of_below h.2.2)
end
set_option maxHeartbeats 8000000 in
theorem copiedImage_any (A0 A1 A2 A3 : Option Addr) (n0 n1 n2 n3 c0 c1 c2 c3 : Nat) (m : J.Img) (M : Nat → Prop) (w : World) (h0 : Sl w M (.slice A0 n0 c0) m.h0) (h1 : Sl w M (.slice A1 n1 c1) m.h1) (h2 : Sl w M (.slice A2 n2 c2) m.a0) (h3 : Sl w M (.slice A3 n3 c3) m.a1)
    (z0 : m.h0.length ≤ 90000000) (z1 : m.h1.length ≤ 90000000) (z2 : m.a0.length ≤ 90000000) (z3 : m.a1.length ≤ 90000000) :
    Calls Tryz.prog 56 #[imgW (.slice A0 n0 c0) (.slice A1 n1 c1) (.slice A2 n2 c2) (.slice A3 n3 c3)] w fun e w' => ∃ v, e = .returned v ∧ ImgC w' (· < w.heap.size) v m ∧ Below w.heap.size w w' := by
  have H0 := Lib.hid h0
  have H1 := Lib.hid h1
  have H2 := Lib.hid h2
  have H3 := Lib.hid h3
  clear h0 h1 h2 h3
  go_enter Tryz.func56, Tryz.ntmps56
  go_upto_region 1 with fail
  have hst := imgc_start w #[.slice A0 n0 c0, .slice A1 n1 c1, .slice A2 n2 c2, .slice A3 n3 c3] #[.slice none 0 0, .slice none 0 0, .slice none 0 0, .slice none 0 0]
  generalize (w.alloc (.cells #[.slice A0 n0 c0, .slice A1 n1 c1, .slice A2 n2 c2, .slice A3 n3 c3] 67)).alloc (.cells #[.slice none 0 0, .slice none 0 0, .slice none 0 0, .slice none 0 0] 67) = W at hst ⊢
  have HST := Lib.hid hst
  clear hst
  refine wp_region_plan 19 [(0, false), (1, false), (2, false), (4, false), (5, false), (6, false), (9, false), (10, false), (11, false), (13, false), (14, false), (15, false), (3, true), (7, true), (8, false), (12, true), (16, true), (17, false), (18, false)] (CpStay w #[.slice A0 n0 c0, .slice A1 n1 c1, .slice A2 n2 c2, .slice A3 n3 c3] #[.slice none 0 0, .slice none 0 0, .slice none 0 0, .slice none 0 0]) (by kernel_rfl) (by kernel_rfl) (fun c a d v w h => by cases d <;> exact h) HST.out.drew ?_
  repeat
    refine wpPlan_read (v := ?_) (by rfl) (by rfl) (fun w' hS => ?_) (fun K hK => ?_)
    rotate_left
    · have hcb := fun j => cell_of_row w' w.heap.size j _ _ _ hS.1
      clear hS
      go_simp
      try with_reducible rfl
    go_simp
    refine hK _ ?_
    clear hK K
  refine wpPlan_write (by rfl) (fun K hK => ?_)
  go_simp
  refine (copied_any (.slice A0 n0 c0) m.h0 W.drew M (cp_sl HST.out.drew H0.out) z0).mono ?_
  rintro e w0 ⟨v0, rfl, hs, hb⟩
  have HC0 := Lib.hid (CpStay.below HST.out.drew hb)
  have hs2 : Slc w0 (· < w.heap.size + 1 + 1) v0 m.h0 := hs.weak (fun j hj => Nat.lt_of_lt_of_le hj (CpStay.lt HST.out.drew))
  have HV0 := Lib.hid hs2
  obtain ⟨B0, rfl⟩ := hs2.slice_
  clear hs hb hs2
  refine hK.out _ _ HC0.out ?_
  clear hK K
  refine wpPlan_write (by rfl) (fun K hK => ?_)
  go_simp
  refine (copied_any (.slice A1 n1 c1) m.h1 w0 M (cp_sl HC0.out H1.out) z1).mono ?_
  rintro e w1 ⟨v1, rfl, hs, hb⟩
  have HC1 := Lib.hid (CpStay.below HC0.out hb)
  have hs2 : Slc w1 (· < w.heap.size + 1 + 1) v1 m.h1 := hs.weak (fun j hj => Nat.lt_of_lt_of_le hj (CpStay.lt HC0.out))
  have HV1 := Lib.hid hs2
  have HV0 := Lib.hid (HV0.out.step (Step.of_below hb))
  obtain ⟨B1, rfl⟩ := hs2.slice_
  clear hs hb hs2
  refine hK.out _ _ HC1.out ?_
  clear hK K
  repeat
    refine wpPlan_read (v := ?_) (by rfl) (by rfl) (fun w' hS => ?_) (fun K hK => ?_)
    rotate_left
    · clear hS
      go_simp
      try with_reducible rfl
    go_simp
    refine hK _ ?_
    clear hK K
  refine wpPlan_write (by rfl) (fun K hK => ?_)
  go_simp
  refine (copied_any (.slice A2 n2 c2) m.a0 w1 M (cp_sl HC1.out H2.out) z2).mono ?_
  rintro e w2 ⟨v2, rfl, hs, hb⟩
  have HC2 := Lib.hid (CpStay.below HC1.out hb)
  have hs2 : Slc w2 (· < w.heap.size + 1 + 1) v2 m.a0 := hs.weak (fun j hj => Nat.lt_of_lt_of_le hj (CpStay.lt HC1.out))
  have HV2 := Lib.hid hs2
  have HV0 := Lib.hid (HV0.out.step (Step.of_below hb))
  have HV1 := Lib.hid (HV1.out.step (Step.of_below hb))
  obtain ⟨B2, rfl⟩ := hs2.slice_
  clear hs hb hs2
  refine hK.out _ _ HC2.out ?_
  clear hK K
  refine wpPlan_write (by rfl) (fun K hK => ?_)
  go_simp
  refine (copied_any (.slice A3 n3 c3) m.a1 w2 M (cp_sl HC2.out H3.out) z3).mono ?_
  rintro e w3 ⟨v3, rfl, hs, hb⟩
  have HC3 := Lib.hid (CpStay.below HC2.out hb)
  have hs2 : Slc w3 (· < w.heap.size + 1 + 1) v3 m.a1 := hs.weak (fun j hj => Nat.lt_of_lt_of_le hj (CpStay.lt HC2.out))
  have HV3 := Lib.hid hs2
  have HV0 := Lib.hid (HV0.out.step (Step.of_below hb))
  have HV1 := Lib.hid (HV1.out.step (Step.of_below hb))
  have HV2 := Lib.hid (HV2.out.step (Step.of_below hb))
  obtain ⟨B3, rfl⟩ := hs2.slice_
  clear hs hb hs2
  refine hK.out _ _ HC3.out ?_
  clear hK K
  repeat
    refine wpPlan_read (v := ?_) (by rfl) (by rfl) (fun w' hS => ?_) (fun K hK => ?_)
    rotate_left
    · clear hS
      go_simp
      try with_reducible rfl
    go_simp
    refine hK _ ?_
    clear hK K
  show wpList _ _ _ _ _ _
  have hcr := fun j => cell_of_row w3 (w.heap.size + 1) j _ _ _ HC3.out.2.1
  have hfr : ∀ j, w3.frozen? ⟨w.heap.size + 1, j, none⟩ = false := fun j => by simp [World.frozen?, HC3.out.2.1]
  go_wp2_with fail
  have hrow := blk_set (blk_set (blk_set (blk_set HC3.out.2.1 0 (.slice B0 m.h0.length m.h0.length)) 1 (.slice B1 m.h1.length m.h1.length)) 2 (.slice B2 m.a0.length m.a0.length)) 3 (.slice B3 m.a1.length m.a1.length)
  refine bodyPost_ret (results_cell_row rfl _ _ (w.heap.size + 1) _ _ _ _ rfl hrow Tryz.underlying67 rfl (by kernel_rfl)) rfl ?_
  have hg := grown_set (grown_set (grown_set (grown_set (World.grownBy.refl w3 (some (w.heap.size + 1))) 0 (.slice B0 m.h0.length m.h0.length)) 1 (.slice B1 m.h1.length m.h1.length)) 2 (.slice B2 m.a0.length m.a0.length)) 3 (.slice B3 m.a1.length m.a1.length)
  have hs : Step (· < w.heap.size + 1 + 1) (· < w.heap.size + 1 + 1) w3 _ := Step.of_grown hg (fun k e _ => by cases e; show _ < _; omega)
  have hw : ∀ k, k < w.heap.size → k < w.heap.size + 1 + 1 := fun k hk => by omega
  refine ⟨_, rfl, ⟨_, _, _, _, rfl, (HV0.out.step hs).weak hw, (HV1.out.step hs).weak hw, (HV2.out.step hs).weak hw, (HV3.out.step hs).weak hw⟩, ?_⟩
  exact HC3.out.2.2.grown hg HC3.out.2.2.size (fun k e => by cases e; omega)
end Go.Proofs.YtjbepnkchoaipaaGreat
