import Derived.Test.YtjbepnkchoaipaaGreatM03
import Derived.Test.YtjbepnkchoaipaaGreatM04
import Derived.Deep.RegionHeld3
import Derived.Deep.QuietTactic
import Derived.BigQuiet
import Derived.Test.YtjbepnkchoaipaaGreatM05
set_option linter.unusedVariables false
set_option linter.unusedSimpArgs false
/- Contract: record. -/
namespace Go.Proofs.YtjbepnkchoaipaaGreat
open Go.RowKit Go.Lib
set_option maxRecDepth 100000
/-- A slice of changes. -/
def Chs (w : World) (M : Nat → Prop) (A : Option Addr) (n : Nat) (L : List J.Chg) : Prop :=
  L.length = n ∧ (0 < n → ∃ b, A = some ⟨b, 0, none⟩ ∧ b < w.heap.size ∧ ∀ i (h : i < L.length), ∃ v, w.cell? ⟨b, i * 3, none⟩ = some (.string ⟨L[i].key.toArray⟩) ∧ w.cell? ⟨b, i * 3 + 1, none⟩ = some v ∧ w.cell? ⟨b, i * 3 + 2, none⟩ = some (.bool L[i].gone) ∧ Sl w M v L[i].val)
section
variable {P : Program} {ops : Array Oper} {o : Oper} {a : Act} {w : World} {K : Act → World → Prop} {Q : Exit → Act → World → Prop} {E : Prop}
theorem step_app_by (hgd : o.guard = none) (s x : Operand) (ho : o.op = .call { callee := .builtin .append, args := #[s, x], argTypes := #[37, 37] })
    (base : Nat) (v : Value) (n : Nat) (l : List UInt8) (hs : a.eval s = v) (hown : w.ownsRow base 5 1 v n (u8s l)) (M : Nat → Prop) (A : Option Addr) (m c : Nat) (x' : List UInt8) (hx : a.eval x = .slice A m c) (hr : By w M A m x')
    (hb : n + m ≤ 100000000) (hbase : base ≤ w.heap.size)
    (h : ∀ v' w', w'.ownsRow base 5 1 v' (n + m) (u8s (l ++ x')) → w.grownBy w' v.ownBlock → K (a.put o.dst v') w') :
    if Region.wanted o (yielded ops a.tmps) = true then Oper.wp Tryz.prog o a w K Q else E := by
  have hw : Region.wanted o (yielded ops a.tmps) = true := by simp [Region.wanted, hgd]
  rw [if_pos hw]
  obtain ⟨v', w', hrun, h2, h3, h4, h5⟩ := run_append_by w base v n l hown M A m c x' hr hb hbase o.type
  unfold Oper.wp execOp
  simp only [ho, resolve, invoke, builtin, Sem.run_bind, Sem.run_pure, Result.andThen_ok, List.map_toArray, List.map_cons, List.map_nil, hs, hx, hrun]
  exact h v' w' h2 h3
theorem step_app_str (hgd : o.guard = none) (s x : Operand) (ho : o.op = .call { callee := .builtin .append, args := #[s, x], argTypes := #[37, 9] })
    (base : Nat) (v : Value) (n : Nat) (l : List UInt8) (hs : a.eval s = v) (hown : w.ownsRow base 5 1 v n (u8s l)) (t : ByteArray) (hx : a.eval x = .string t)
    (hb : n + t.size ≤ 100000000) (hbase : base ≤ w.heap.size)
    (h : ∀ v' w', w'.ownsRow base 5 1 v' (n + t.size) (u8s (l ++ t.data.toList)) → w.grownBy w' v.ownBlock → K (a.put o.dst v') w') :
    if Region.wanted o (yielded ops a.tmps) = true then Oper.wp Tryz.prog o a w K Q else E := by
  have hw : Region.wanted o (yielded ops a.tmps) = true := by simp [Region.wanted, hgd]
  rw [if_pos hw]
  obtain ⟨v', w', hrun, h2, h3⟩ := run_append_bys w base v n l hown t hb hbase o.type
  unfold Oper.wp execOp
  simp only [ho, resolve, invoke, builtin, Sem.run_bind, Sem.run_pure, Result.andThen_ok, List.map_toArray, List.map_cons, List.map_nil, hs, hx, hrun]
  exact h v' w' h2 h3
end
theorem take_snocC (L : List J.Chg) (k : Nat) (h : k < L.length) : L.take (k + 1) = L.take k ++ [L[k]] := List.take_succ_eq_append_getElem h
theorem encs_snoc (L : List J.Chg) (c : J.Chg) : J.encs (L ++ [c]) = J.encs L ++ c.enc := by simp [J.encs]
theorem encs_take_len (L : List J.Chg) (k : Nat) : (J.encs (L.take k)).length ≤ (J.encs L).length := by
  have : J.encs L = J.encs (L.take k) ++ J.encs (L.drop k) := by unfold J.encs; rw [← List.flatMap_append, List.take_append_drop]
  rw [this, List.length_append]; omega

theorem own_ne_row {w : World} {base : Nat} {e t : TypeId} {size n g : Nat} {v : Value} {xs : List Value} {C : Array Value} {fr : Nat × Nat} (h : w.ownsRow base e size v n xs) (hg : w.heap[g]? = some (.cells C t fr)) (hne : e ≠ t) : v.ownBlock ≠ some g := by
  rcases h.2 with ⟨rfl, _⟩ | ⟨g', cap, cur, rfl, _, hh, _⟩
  · simp [Value.ownBlock]
  · intro he
    have : g' = g := by simpa [Value.ownBlock] using he
    subst this
    rw [hg] at hh
    injection hh with hh
    injection hh with _ ht
    exact hne ht.symm
/-- What stays while a change is written: its box; what was there. -/
def RStay (w0 : World) (g : Nat) (R : Array Value) (w : World) : Prop := w.heap[g]? = some (.cells R 133 (0, 0)) ∧ Below w0.heap.size w0 w
theorem RStay.grown {w0 w w' : World} {g : Nat} {R : Array Value} {n : Nat} {v : Value} {xs : List Value} (h : RStay w0 g R w) (ho : w.ownsRow w0.heap.size 5 1 v n xs) (hg : w.grownBy w' v.ownBlock) : RStay w0 g R w' :=
  ⟨(hg.block g (Array.getElem?_eq_some_iff.1 h.1).1 (fun e => own_ne_row ho h.1 (by decide) e.symm)).trans h.1, h.2.grown hg h.2.size (fun j hj => (ho.lt j hj).1)⟩
theorem RStay.alloc {w0 w : World} {g : Nat} {R : Array Value} (h : RStay w0 g R w) (o : Obj) : RStay w0 g R (w.alloc o) :=
  ⟨(Below.heap_alloc w o g (Array.getElem?_eq_some_iff.1 h.1).1).trans h.1, h.2.alloc h.2.size o⟩
theorem RStay.seen {w0 w : World} {g : Nat} {K v : Value} {gone : Bool} (h : RStay w0 g #[K, v, .bool gone] w) : w.cell? ⟨g, 0, none⟩ = some K ∧ w.cell? ⟨g, 1, none⟩ = some v ∧ Hid (RStay w0 g #[K, v, .bool gone] w) :=
  ⟨cell_of_row w g 0 _ _ _ h.1, cell_of_row w g 1 _ _ _ h.1, h⟩

theorem RStay.drew {w0 w : World} {g : Nat} {R : Array Value} (h : RStay w0 g R w) : RStay w0 g R w.drew := ⟨h.1, h.2.drew⟩
theorem rs_of {w0 w : World} {g : Nat} {K v : Value} {gone : Bool} (h : RStay w0 g #[K, v, .bool gone] w) : w.cell? ⟨g, 0, none⟩ = some K ∧ Hid (RStay w0 g #[K, v, .bool gone] w) := ⟨cell_of_row w g 0 _ _ _ h.1, h⟩
theorem rt_of {w0 w : World} {g : Nat} {K v : Value} {gone : Bool} (h : RStay w0 g #[K, v, .bool gone] w) : w.cell? ⟨g, 1, none⟩ = some v ∧ Hid (RStay w0 g #[K, v, .bool gone] w) := ⟨cell_of_row w g 1 _ _ _ h.1, h⟩
theorem rs_alloc {w0 w : World} {g : Nat} {K v : Value} {gone : Bool} {o : Obj} (h : w.drew.cell? ⟨g, 0, none⟩ = some K ∧ Hid (RStay w0 g #[K, v, .bool gone] w.drew)) : (w.alloc o).drew.cell? ⟨g, 0, none⟩ = some K ∧ Hid (RStay w0 g #[K, v, .bool gone] (w.alloc o).drew) :=
  rs_of (RStay.alloc h.2.out o)
theorem by_one {w : World} {b : UInt8} {c : Int} (hc : c = (b.toNat : Int)) : By (w.alloc (.cells #[.int .u8 c] 5)).drew NoM (some ⟨w.heap.size, 0, none⟩) 1 [b] := ⟨rfl, fun _ => ⟨w.heap.size, 0, rfl, by simp, fun h => h, fun j hj => by
  obtain rfl : j = 0 := by simpa using hj
  rw [Nat.zero_add]
  refine (World.cell?_alloc_new _ _ _ _).trans ?_
  rw [hc]; rfl⟩⟩

theorem le_alloc (w : World) (o : Obj) : w.heap.size ≤ (w.alloc o).heap.size := by simp
theorem own_base {w : World} {base base' : Nat} {e : TypeId} {size n : Nat} {v : Value} {xs : List Value} (h : w.ownsRow base e size v n xs) (hb : base' ≤ base) : w.ownsRow base' e size v n xs :=
  ⟨h.1, h.2.imp id fun ⟨g, cap, cur, h1, h2, h3⟩ => ⟨g, cap, cur, h1, Nat.le_trans hb h2, h3⟩⟩
theorem rec_row {w : World} {base n : Nat} {v : Value} {l l' : List UInt8} (h : w.ownsRow base 5 1 v n (u8s l)) (e : l' = l) : w.ownsRow base 5 1 v l'.length (u8s l') := by
  subst e
  have : n = l'.length := by have := h.1; rw [u8s_len] at this; omega
  rw [← this]; exact h
set_option maxHeartbeats 4000000 in
theorem record_any (kind number : Nat) (A : Option Addr) (n c : Nat) (L : List J.Chg) (w : World) (M : Nat → Prop) (h : Chs w M A n L) (hk : kind < 256) (hnum : number < 4611686018427387904) (hl : (J.encs L).length ≤ 80000000) (hn : n ≤ 80000000) :
    Calls Tryz.prog 92 #[.int .u8 kind, .int .i64 number, .slice A n c] w fun e w' => ∃ v', e = .returned v' ∧ w'.ownsRow w.heap.size 5 1 v' (J.record kind number L).length (u8s (J.record kind number L)) ∧ Below w.heap.size w w' := by
  have H := Lib.hid h
  have hL : L.length = n := h.1
  clear h
  go_enter Tryz.func92, Tryz.ntmps92
  go_wp2
  go_loopw [7, 13] (fun s i wr => ∃ k : Nat, k ≤ n ∧ i = .int .i64 k ∧ wr.ownsRow w.heap.size 5 1 s (J.encs (L.take k)).length (u8s (J.encs (L.take k))) ∧ Below w.heap.size w wr) (fun _ i _ => n - (intOf i).toNat)
  case atStart => exact ⟨0, Nat.zero_le _, rfl, World.ownsRow_nil _ _ _ _, Below.refl _ _⟩
  case round =>
    obtain ⟨k, hk, rfl, hown, hbel⟩ := hrel
    have HO := Lib.hid hown
    have HB := Lib.hid hbel
    clear hown hbel
    by_cases hlt : k < n
    · have hkl : k < L.length := by omega
      obtain ⟨b, rfl, hbl, hcs⟩ := H.out.2 (by omega)
      obtain ⟨v, hc0, hc1, hc2, hsl⟩ := hcs k hkl
      have hc0 := (HB.out.cell (p := ⟨b, k * 3, none⟩) hbl).trans hc0
      have hc1 := (HB.out.cell (p := ⟨b, k * 3 + 1, none⟩) hbl).trans hc1
      have hc2 := (HB.out.cell (p := ⟨b, k * 3 + 2, none⟩) hbl).trans hc2
      obtain ⟨Av, cv, rfl, hcv, hby⟩ := hsl.by
      have HY := Lib.hid hby.noM
      clear hcs hsl hby
      have HT := Lib.hid (take_snocC L k hkl)
      have hEn := encs_take_len L (k + 1)
      rw [HT.out, encs_snoc, List.length_append] at hEn
      generalize hch : L[k] = ch at HY hEn HT hc0 hc1 hc2
      obtain ⟨key, val, gone⟩ := ch
      have HCH := Lib.hid hch
      clear hch
      have hky : (J.encs (L.take k)).length + 3 + key.length ≤ 80000000 := by
        have : 3 + key.length ≤ (J.Chg.enc ⟨key, val, gone⟩).length := by cases gone <;> simp [J.Chg.enc, J.leB_len] <;> omega
        omega
      have hky2 : gone = false → (J.encs (L.take k)).length + 7 + key.length + val.length ≤ 80000000 := by
        intro hg
        have : 7 + key.length + val.length ≤ (J.Chg.enc ⟨key, val, gone⟩).length := by subst hg; simp [J.Chg.enc, J.leB_len]; omega
        omega
      have hky3 : (J.encs (L.take k)).length + 3 + (⟨key.toArray⟩ : ByteArray).size ≤ 80000000 := by rw [Lib.size_eq]; exact hky
      have hky4 : (J.encs (L.take k)).length + 3 + key.toArray.size ≤ 80000000 := by rw [List.size_toArray]; exact hky
      have hwk : IntKind.u64.wrap (key.length : Int) = (key.length : Int) := IntWalk.u64_in _ (by omega)
      clear hEn
      cases gone with
      | true =>
        clear hky2
        have hst : RStay w wr.heap.size #[.string ⟨key.toArray⟩, .slice Av val.length cv, .bool true] (wr.alloc (.cells #[.string ⟨key.toArray⟩, .slice Av val.length cv, .bool true] 133)) := ⟨heap_alloc_new wr _, HB.out.alloc HB.out.size _⟩
        have HST := Lib.hid hst
        clear hst
        go_wp2_with fail
        have hS := rs_of (RStay.drew HST.out)
        have hown0 := (HO.out.alloc (.cells #[.string ⟨key.toArray⟩, .slice Av val.length cv, .bool true] 133)).drew
        generalize hW0 : (wr.alloc (.cells #[.string ⟨key.toArray⟩, .slice Av val.length cv, .bool true] 133)) = W0 at hS hown0 ⊢
        have hWz : wr.heap.size < W0.heap.size := by rw [← hW0]; simp
        clear hW0
        have HO0 := Lib.hid hown0
        clear hown0
        go_region_held3 (fun w' => w'.cell? ⟨wr.heap.size, 0, none⟩ = some (.string ⟨key.toArray⟩) ∧ Hid (RStay w wr.heap.size #[.string ⟨key.toArray⟩, .slice Av val.length cv, .bool true] w')) (first | exact hS | exact rs_alloc hS)
          (first
            | (refine step_app_by (by rfl) _ _ (by rfl) w.heap.size _ (J.encs (L.take k)).length (J.encs (L.take k)) (by rfl) (HO0.out.alloc _) NoM (some ⟨W0.heap.size, 0, none⟩) 1 1 [0] (by rfl) (by_one (by rfl)) (by omega) (Nat.le_trans hS.2.out.2.size (le_alloc _ _)) ?_; intro v1 w1 hown1 hg1; have hS := rs_of (RStay.grown (rs_alloc hS).2.out (HO0.out.alloc _) hg1))
            | (go_at_call 105; refine (put_any _ _ _ _ 2 w.heap.size _ hown1 hS.2.out.2.size (by omega) (by omega) (by omega)).mono ?_; rintro e w2 ⟨v2, rfl, hown2, hg2, hl2⟩; have hS := rs_of (RStay.grown hS.2.out hown1 hg2))
            | (refine step_app_str (by rfl) _ _ (by rfl) w.heap.size _ _ _ (by rfl) hown2 ⟨key.toArray⟩ (by rfl) (by omega) hS.2.out.2.size ?_; intro v3 w3 hown3 hg3; have hS := rs_of (RStay.grown hS.2.out hown2 hg3)))
        have HS3 := Lib.hid hS.2
        have HO3 := Lib.hid hown3
        clear hS hown1 hg1 hown2 hg2 hl2 hown3 hg3
        go_wp2_with fail
        go_roundw
        case rel => exact ⟨k + 1, by omega, by go_num, rec_row HO3.out (by rw [HT.out, encs_snoc]; simp [J.Chg.enc]), HS3.out.out.2⟩
        case measure => simp [intOf]; omega
      | false =>
        have hky2 := hky2 rfl
        have hky5 : (J.encs (L.take k)).length + 7 + (⟨key.toArray⟩ : ByteArray).size + val.length ≤ 80000000 := by rw [Lib.size_eq]; exact hky2
        have hky6 : (J.encs (L.take k)).length + 7 + key.toArray.size + val.length ≤ 80000000 := by rw [List.size_toArray]; exact hky2
        have hwv : IntKind.u64.wrap (val.length : Int) = (val.length : Int) := IntWalk.u64_in _ (by omega)
        have hst : RStay w wr.heap.size #[.string ⟨key.toArray⟩, .slice Av val.length cv, .bool false] (wr.alloc (.cells #[.string ⟨key.toArray⟩, .slice Av val.length cv, .bool false] 133)) := ⟨heap_alloc_new wr _, HB.out.alloc HB.out.size _⟩
        have HST := Lib.hid hst
        clear hst
        go_wp2_with fail
        have hS := rs_of (RStay.drew HST.out)
        have hown0 := (HO.out.alloc (.cells #[.string ⟨key.toArray⟩, .slice Av val.length cv, .bool false] 133)).drew
        generalize hW0 : (wr.alloc (.cells #[.string ⟨key.toArray⟩, .slice Av val.length cv, .bool false] 133)) = W0 at hS hown0 ⊢
        have hWz : wr.heap.size < W0.heap.size := by rw [← hW0]; simp
        clear hW0
        have HO0 := Lib.hid hown0
        clear hown0
        go_region_held3 (fun w' => w'.cell? ⟨wr.heap.size, 0, none⟩ = some (.string ⟨key.toArray⟩) ∧ Hid (RStay w wr.heap.size #[.string ⟨key.toArray⟩, .slice Av val.length cv, .bool false] w')) (first | exact hS | exact rs_alloc hS)
          (first
            | (refine step_app_by (by rfl) _ _ (by rfl) w.heap.size _ (J.encs (L.take k)).length (J.encs (L.take k)) (by rfl) (HO0.out.alloc _) NoM (some ⟨W0.heap.size, 0, none⟩) 1 1 [1] (by rfl) (by_one (by rfl)) (by omega) (Nat.le_trans hS.2.out.2.size (le_alloc _ _)) ?_; intro v1 w1 hown1 hg1; have hS := rs_of (RStay.grown (rs_alloc hS).2.out (HO0.out.alloc _) hg1))
            | (go_at_call 105; refine (put_any _ _ _ _ 2 w.heap.size _ hown1 hS.2.out.2.size (by omega) (by omega) (by omega)).mono ?_; rintro e w2 ⟨v2, rfl, hown2, hg2, hl2⟩; have hS := rs_of (RStay.grown hS.2.out hown1 hg2))
            | (refine step_app_str (by rfl) _ _ (by rfl) w.heap.size _ _ _ (by rfl) hown2 ⟨key.toArray⟩ (by rfl) (by omega) hS.2.out.2.size ?_; intro v3 w3 hown3 hg3; have hS := rs_of (RStay.grown hS.2.out hown2 hg3)))
        have HS3 := Lib.hid hS.2
        have HO3 := Lib.hid hown3
        clear hS hown1 hg1 hown2 hg2 hl2 hown3 hg3 hWz HO0
        go_wp2_with fail
        have hS := rt_of (RStay.drew HS3.out.out)
        have hown3 := HO3.out.drew
        go_region_held3 (fun w' => w'.cell? ⟨wr.heap.size, 1, none⟩ = some (.slice Av val.length cv) ∧ Hid (RStay w wr.heap.size #[.string ⟨key.toArray⟩, .slice Av val.length cv, .bool false] w')) (first | exact hS)
          (first
            | (go_at_call 105; refine (put_any _ _ _ _ 4 w.heap.size _ hown3 hS.2.out.2.size (by omega) (by omega) (by omega)).mono ?_; rintro e w4 ⟨v4, rfl, hown4, hg4, hl4⟩; have hS := rt_of (RStay.grown hS.2.out hown3 hg4))
            | (refine step_app_by (by rfl) _ _ (by rfl) w.heap.size _ _ _ (by rfl) hown4 NoM Av val.length cv val (by rfl) (HY.out.below hS.2.out.2) (by omega) hS.2.out.2.size ?_; intro v5 w5 hown5 hg5; have hS := rt_of (RStay.grown hS.2.out hown4 hg5)))
        have HS5 := Lib.hid hS.2
        have HO5 := Lib.hid hown5
        clear hS hown3 hown4 hg4 hl4 hown5 hg5
        go_wp2_with fail
        go_roundw
        case rel => exact ⟨k + 1, by omega, by go_num, rec_row HO5.out (by rw [HT.out, encs_snoc]; simp [J.Chg.enc]), HS5.out.out.2⟩
        case measure => simp [intOf]; omega
    · obtain rfl : k = n := by omega
      have hall : L.take k = L := List.take_of_length_le (by omega)
      have hown := HO.out
      rw [hall] at hown
      obtain ⟨A', c', rfl, hcc, hby⟩ := ownsRow_by hown (M := NoM) (fun _ h => h.elim)
      have HY := Lib.hid hby
      have hel : ((J.encs L).length : Int) ≤ 80000000 := by omega
      have hel2 : (J.encs L).length ≤ 80000000 := hl
      have hrow0 : (wr.alloc (.cells #[.int .u8 kind] 5)).ownsRow wr.heap.size 5 1 (.slice (some ⟨wr.heap.size, 0, none⟩) 1 1) 1 (u8s [UInt8.ofNat kind]) := by
        have := World.ownsRow_lit (base := wr.heap.size) (e := 5) (size := 1) wr #[.int .u8 kind] 1 (Nat.le_refl _) (by decide) rfl
        have e : u8s [UInt8.ofNat kind] = [Value.int .u8 kind] := by
          simp only [u8s, List.map_cons, List.map_nil, u8, UInt8.toNat_ofNat']
          rw [Nat.mod_eq_of_lt (by omega)]
        rw [e]; exact this
      have HR0 := Lib.hid hrow0
      generalize hEL : J.encs L = EL at HY hel hel2 hcc
      have HEL := Lib.hid hEL
      clear hown hall hby hrow0 HO hEL hl
      go_wp2_with fail
      refine (put_any _ 1 _ number 4 wr.heap.size _ HR0.out (by simp) (by omega) (by omega) (by omega)).mono ?_
      rintro e w1 ⟨v1, rfl, hown1, hg1, hl1⟩
      have HB1 := Lib.hid (((Below.refl wr.heap.size wr).alloc (Nat.le_refl _) _).grown hg1 (by simp) (fun j hj => (HR0.out.lt j hj).1))
      have HO1 := Lib.hid hown1
      clear hown1 hg1 hl1
      go_wp2_with fail
      refine (put_any _ _ _ EL.length 4 wr.heap.size _ HO1.out HB1.out.size (by omega) (by omega) (by omega)).mono ?_
      rintro e w2 ⟨v2, rfl, hown2, hg2, hl2⟩
      have HB2 := Lib.hid (HB1.out.grown hg2 HB1.out.size (fun j hj => (HO1.out.lt j hj).1))
      have HO2 := Lib.hid hown2
      clear hown2 hg2 hl2
      go_wp2_with (at_builtin; refine wpList_app_by rfl _ _ rfl wr.heap.size v2 _ _ rfl HO2.out NoM A' _ c' EL rfl (HY.out.below HB2.out) (by omega) HB2.out.size ?_)
      intro v3 w3 hown3 hg3 hat3 hnil3
      have hb3 := HB2.out.grown hg3 HB2.out.size (fun j hj => (HO2.out.lt j hj).1)
      have HB3 := Lib.hid hb3
      have hown3 := rec_row hown3 (l' := J.body kind number L) (by rw [J.body, HEL.out]; simp)
      have hbl : (J.body kind number L).length = 9 + EL.length := by rw [J.body, HEL.out]; simp [J.leB_len]; omega
      have hck := J.chk_lt (J.body kind number L)
      have hrec : J.record kind number L = J.body kind number L ++ J.leB (J.chk (J.body kind number L)) 4 := rfl
      have HRC := Lib.hid hrec
      generalize J.body kind number L = BD at hown3 hbl hck HRC
      have hbl2 : BD.length ≤ 80000009 := by omega
      have hbl3 : (BD.length : Int) ≤ 80000009 := by omega
      clear hbl
      obtain ⟨A3, c3, rfl, hcc3, hby3⟩ := ownsRow_by hown3 (M := NoM) (fun _ h => h.elim)
      have HO3 := Lib.hid hown3
      have HY3 := Lib.hid hby3
      clear hown3 hg3 hat3 hnil3 hb3 hby3 hrec
      go_wp2_with fail
      with_reducible refine (check_any A3 _ c3 BD _ NoM HY3.out (by omega)).mono ?_
      rintro e w3' ⟨rfl, rfl⟩
      generalize hCK : J.chk BD = CK at hck HRC
      have HCK := Lib.hid hCK
      clear hCK
      go_wp2_with fail
      refine (put_any _ _ _ CK 4 wr.heap.size _ HO3.out HB3.out.size (by omega) (by omega) (by omega)).mono ?_
      rintro e w4 ⟨v4, rfl, hown4, hg4, hl4⟩
      have HB4 := Lib.hid (HB3.out.grown hg4 HB3.out.size (fun j hj => (HO3.out.lt j hj).1))
      have HO4 := Lib.hid hown4
      clear hown4 hg4 hl4
      go_wp2_with fail
      go_ret
      exact ⟨_, rfl, rec_row (own_base HO4.out HB.out.size) HRC.out, HB.out.trans (HB4.out.mono HB.out.size)⟩
end Go.Proofs.YtjbepnkchoaipaaGreat
/- Laws at an operation: a slice expression on bytes that are read; a string of them. -/
namespace Go.Proofs.YtjbepnkchoaipaaGreat
open Go.RowKit Go.Lib
set_option maxRecDepth 100000
/-- A' is the part from i to j of a slice of n bytes at A. -/
def Part (A : Option Addr) (n i j : Nat) (A' : Option Addr) : Prop := (∀ (w : World) (M : Nat → Prop) (l : List UInt8), By w M A n l → By w M A' (j - i) ((l.take j).drop i)) ∧ ∀ b o, A = some ⟨b, o, none⟩ → ∃ o', A' = some ⟨b, o', none⟩
theorem Part.out {A A' : Option Addr} {n i j : Nat} (h : Part A n i j A') (w : World) (M : Nat → Prop) (l : List UInt8) (hb : By w M A n l) : By w M A' (j - i) ((l.take j).drop i) := h.1 w M l hb
theorem run_slice_by {w : World} {A : Option Addr} {n c : Nat} (i j : Nat) (hij : i ≤ j) (hj : j ≤ n) (hc : n ≤ c) (low high : Option Value)
    (hlow : low = some (.int .i64 i) ∨ (low = none ∧ i = 0)) (hhigh : high = some (.int .i64 j) ∨ (high = none ∧ j = n)) :
    ∃ A', (Instr.sliceAt 37 (.slice A n c) low high none).run Tryz.prog w = .ok (.slice A' (j - i) (c - i)) w ∧ Part A n i j A' := by
  have hb : (Instr.sliceBounds true n c low high none).run Tryz.prog w = .ok (i, j, c) w := by
    have e1 : (0 : Int) ≤ (i : Int) := by omega
    have e2 : (i : Int) ≤ (j : Int) := by omega
    have e3 : (j : Int) ≤ (c : Int) := by omega
    have e0 : (0 : Int) ≤ (j : Int) := by omega
    rcases hlow with rfl | ⟨rfl, rfl⟩ <;> rcases hhigh with rfl | ⟨rfl, rfl⟩
    · simp [Instr.sliceBounds, run_sliceBound _ _ _ _ _ e1 e2, run_sliceBound _ _ _ _ _ e0 e3]
    · simp [Instr.sliceBounds, run_sliceBound _ _ _ _ _ e1 e2]
    · simp [Instr.sliceBounds, run_sliceBound _ _ _ _ _ e0 e3]
    · simp [Instr.sliceBounds]
  have hsz : (sizeOf (Tryz.prog.elem 37)).run Tryz.prog w = .ok 1 w := by kernel_rfl
  have hrun : (Instr.sliceAt 37 (.slice A n c) low high none).run Tryz.prog w = .ok (sliced A i j c 1) w := by
    rw [run_sliceAt_slice _ _ _ _ _ _ Tryz.underlying37, run_slice_any _ _ _ _ _ Tryz.underlying37, hb]
    simp [Result.andThen, hsz]
  refine ⟨_, hrun, ?_⟩
  rw [Nat.mul_one]
  refine ⟨fun w M l h => ?_, fun b o e => by subst e; split <;> simp [add_mk]⟩
  refine ⟨by rw [List.length_drop, List.length_take, h.1]; omega, fun hn => ?_⟩
  obtain ⟨b, o, rfl, hb', hM, hcl⟩ := h.2 (by omega)
  rw [if_neg (by omega)]
  refine ⟨b, o + i, by simp [add_mk], hb', hM, fun k hk => ?_⟩
  rw [List.length_drop, List.length_take, h.1] at hk
  rw [Nat.add_assoc, hcl (i + k) (by rw [h.1]; omega)]
  simp
section
variable {w : World} {ops : Array Oper} {rest : List Oper} {o : Oper} {a : Act} {Q : Exit → Act → World → Prop}
theorem wpList_slice_by (hg : Region.wanted o (yielded ops a.tmps) = true) (x : Operand) (lo hi : Option Operand) (hop : o.op = Op.slice 37 x lo hi none) (A : Option Addr) (n c : Nat) (hx : a.eval x = .slice A n c)
    (i j : Nat) (hij : i ≤ j) (hj : j ≤ n) (hc : n ≤ c) (hlow : lo.map a.eval = some (.int .i64 i) ∨ (lo.map a.eval = none ∧ i = 0)) (hhigh : hi.map a.eval = some (.int .i64 j) ∨ (hi.map a.eval = none ∧ j = n))
    (hK : ∀ A', Part A n i j A' → wpList Tryz.prog ops Q rest (a.put o.dst (.slice A' (j - i) (c - i))) w) : wpList Tryz.prog ops Q (o :: rest) a w := by
  refine wpList_want hg fun K' hK' => ?_
  obtain ⟨A', hrun, hby⟩ := run_slice_by (w := w) (A := A) i j hij hj hc _ _ hlow hhigh
  unfold Oper.wp
  simp only [execOp, hop, hx, Option.map_none, Sem.run_bind, hrun, Result.andThen]
  exact hK' _ _ (hK A' hby)
theorem wpList_from (hg : Region.wanted o (yielded ops a.tmps) = true) (x lo : Operand) (hop : o.op = Op.slice 37 x (some lo) none none) (A : Option Addr) (n c : Nat) (hx : a.eval x = .slice A n c) (i : Nat) (hlo : a.eval lo = .int .i64 i) (hi : i ≤ n) (hc : n ≤ c)
    (hK : ∀ A', Part A n i n A' → wpList Tryz.prog ops Q rest (a.put o.dst (.slice A' (n - i) (c - i))) w) : wpList Tryz.prog ops Q (o :: rest) a w :=
  wpList_slice_by hg x (some lo) none hop A n c hx i n hi (Nat.le_refl _) hc (.inl (congrArg some hlo)) (.inr ⟨rfl, rfl⟩) hK
theorem wpList_to (hg : Region.wanted o (yielded ops a.tmps) = true) (x hi : Operand) (hop : o.op = Op.slice 37 x none (some hi) none) (A : Option Addr) (n c : Nat) (hx : a.eval x = .slice A n c) (j : Nat) (hhi : a.eval hi = .int .i64 j) (hj : j ≤ n) (hc : n ≤ c)
    (hK : ∀ A', Part A n 0 j A' → wpList Tryz.prog ops Q rest (a.put o.dst (.slice A' j c)) w) : wpList Tryz.prog ops Q (o :: rest) a w :=
  wpList_slice_by hg x none (some hi) hop A n c hx 0 j (Nat.zero_le _) hj hc (.inr ⟨rfl, rfl⟩) (.inl (congrArg some hhi)) hK
theorem wpList_part (hg : Region.wanted o (yielded ops a.tmps) = true) (x lo hi : Operand) (hop : o.op = Op.slice 37 x (some lo) (some hi) none) (A : Option Addr) (n c : Nat) (hx : a.eval x = .slice A n c) (i j : Nat) (hlo : a.eval lo = .int .i64 i) (hhi : a.eval hi = .int .i64 j) (hij : i ≤ j) (hj : j ≤ n) (hc : n ≤ c)
    (hK : ∀ A', Part A n i j A' → wpList Tryz.prog ops Q rest (a.put o.dst (.slice A' (j - i) (c - i))) w) : wpList Tryz.prog ops Q (o :: rest) a w :=
  wpList_slice_by hg x (some lo) (some hi) hop A n c hx i j hij hj hc (.inl (congrArg some hlo)) (.inl (congrArg some hhi)) hK
theorem run_str_by {A : Option Addr} {n c : Nat} {l : List UInt8} {M : Nat → Prop} (h : By w M A n l) : (convert 37 9 (.slice A n c)).run Tryz.prog w = .ok (.string ⟨l.toArray⟩) w := by
  rcases Nat.eq_zero_or_pos n with h0 | h0
  · subst h0
    obtain rfl : l = [] := List.eq_nil_of_length_eq_zero h.1
    rw [run_convert_bytes_string w 37 9 5 A 0 c Tryz.underlying37 Tryz.underlying5 Tryz.underlying9]
    cases A <;> rfl
  · obtain ⟨ad, rfl, _, _, hcl⟩ := h.at_ h0
    have e := h.1
    subst e
    exact run_convert_bytes_back w 37 9 5 ad c l Tryz.underlying37 Tryz.underlying5 Tryz.underlying9 hcl
theorem wpList_str_by (hg : Region.wanted o (yielded ops a.tmps) = true) (x : Operand) (hop : o.op = Op.convert 37 9 x) {M : Nat → Prop} (A : Option Addr) (n c : Nat) {l : List UInt8} (hx : a.eval x = .slice A n c) (h : By w M A n l)
    (hK : wpList Tryz.prog ops Q rest (a.put o.dst (.string ⟨l.toArray⟩)) w) : wpList Tryz.prog ops Q (o :: rest) a w := by
  refine wpList_want hg fun K' hK' => ?_
  have hrun := run_str_by (c := c) h
  unfold Oper.wp
  simp only [execOp, hop, hx, Sem.run_bind, hrun, Result.andThen]
  exact hK' _ _ hK
end
end Go.Proofs.YtjbepnkchoaipaaGreat
/- Contract: changesOf. -/
namespace Go.Proofs.YtjbepnkchoaipaaGreat
open Go.RowKit Go.Lib
set_option maxRecDepth 100000
/-- The cells of changes whose values are these. -/
def chCells (L : List J.Chg) (vs : List Value) : List Value := (L.zip vs).flatMap fun p => [.string ⟨p.1.key.toArray⟩, p.2, .bool p.1.gone]
/-- A row of changes of one's own, from block base on; the values lie from block B on. -/
def ChRow (w : World) (M : Nat → Prop) (base : Nat) (v : Value) (L : List J.Chg) : Prop :=
  ∃ vs : List Value, vs.length = L.length ∧ w.ownsRow base 133 3 v L.length (chCells L vs) ∧ ∀ i (h : i < L.length) (h' : i < vs.length), Slc w (fun k => M k ∨ v.ownBlock = some k) vs[i] L[i].val
theorem ChRow.nil_ (w : World) (M : Nat → Prop) (base : Nat) : ChRow w M base (.slice none 0 0) [] := ⟨[], rfl, World.ownsRow_nil _ _ _ _, fun i h => absurd h (by simp)⟩
theorem chCells_snoc (L : List J.Chg) (vs : List Value) (c : J.Chg) (v : Value) (h : vs.length = L.length) : chCells (L ++ [c]) (vs ++ [v]) = chCells L vs ++ [.string ⟨c.key.toArray⟩, v, .bool c.gone] := by
  unfold chCells
  rw [List.zip_append h.symm, List.flatMap_append]
  rfl
theorem Step.grown_own {M : Nat → Prop} {w w' : World} {v v' : Value} (hg : w.grownBy w' v.ownBlock) (hl : v'.ownBlock = v.ownBlock ∨ v'.ownBlock = some w.heap.size) : Step (fun k => M k ∨ v.ownBlock = some k) (fun k => M k ∨ v'.ownBlock = some k) w w' :=
  ⟨hg.os, hg.tape, hg.output, hg.size, fun k hk hn => hg.block k hk (fun e => hn (.inr e.symm)), fun k hk h => by
    rcases h with h | h
    · exact .inl h
    · rcases hl with e | e
      · exact .inr (e ▸ h)
      · rw [e] at h; injection h with h; omega⟩
/-- A change is appended to a row. -/
theorem ChRow.push {wr W w1 : World} {M : Nat → Prop} {base : Nat} {v v' x : Value} {dn : List J.Chg} {c : J.Chg} {vs : List Value} (h1 : vs.length = dn.length) (h3 : ∀ i (h : i < dn.length) (h' : i < vs.length), Slc wr (fun k => M k ∨ v.ownBlock = some k) vs[i] dn[i].val)
    (hb : Below wr.heap.size wr W) (hown : w1.ownsRow base 133 3 v' (dn.length + 1) (chCells dn vs ++ [.string ⟨c.key.toArray⟩, x, .bool c.gone])) (hg : W.grownBy w1 v.ownBlock) (hl : v'.ownBlock = v.ownBlock ∨ v'.ownBlock = some W.heap.size)
    (hx : Slc W (fun k => M k ∨ v.ownBlock = some k) x c.val) : ChRow w1 M base v' (dn ++ [c]) := by
  have hs := Step.grown_own (M := M) hg hl
  refine ⟨vs ++ [x], by simp [h1], ?_, fun i hi hi' => ?_⟩
  · rw [chCells_snoc _ _ _ _ h1]; simpa using hown
  · by_cases e : i < dn.length
    · rw [List.getElem_append_left e, List.getElem_append_left (by omega)]
      exact ((h3 i e (by omega)).step (Step.of_below hb)).step hs
    · have : i = dn.length := by simp at hi; omega
      subst this
      rw [List.getElem_append_right (by omega), List.getElem_append_right (by omega)]
      simp only [h1, Nat.sub_self, List.getElem_singleton]
      exact hx.step hs
theorem By.old {w : World} {M : Nat → Prop} {A : Option Addr} {n : Nat} {l : List UInt8} (h : By w M A n l) : By w (w.heap.size ≤ ·) A n l :=
  ⟨h.1, fun hn => by
    obtain ⟨b, o, e, hb, _, hc⟩ := h.2 hn
    exact ⟨b, o, e, hb, by show ¬ _ ≤ _; omega, hc⟩⟩
theorem Tryz.infoC : (Tryz.prog.info? 133).map (fun i => (i.zero, i.size, i.bytes)) = some (some (.agg #[.string ⟨#[]⟩, .slice none 0 0, .bool false]), 3, 48) := by kernel_rfl
namespace J
theorem changesOf_nil : changesOf [] = some [] := by unfold changesOf; rw [if_pos rfl]
theorem changesOf_none {r : B} (h0 : r ≠ []) (h : chgOf r = none) : changesOf r = none := by
  unfold changesOf; rw [if_neg h0]
  split
  · rfl
  · rename_i c r' h'; rw [h] at h'; cases h'
theorem changesOf_some {r r' : B} {c : Chg} (h0 : r ≠ []) (h : chgOf r = some (c, r')) : changesOf r = (changesOf r').map (c :: ·) := by
  rw [changesOf, if_neg h0]
  split
  · rename_i h'; rw [h] at h'; cases h'
  · rename_i c2 r2 h'; rw [h] at h'; injection h' with h'; injection h' with h1 h2; subst h1 h2; rfl
/-- The number of the bytes of the key of the first change. -/
def nKey (r : B) : Nat := leV ((r.take 3).drop 1)
def nVal (q : B) : Nat := leV (q.take 4)
theorem chgOf_bad1 {r : B} (h : r.length < 3 ∨ 1 < (r.headD 0).toNat) : chgOf r = none := by unfold chgOf; rw [if_pos h]
theorem chgOf_bad2 {r : B} (h : nKey r = 0 ∨ 300 < nKey r ∨ r.length - 3 < nKey r) : chgOf r = none := by
  unfold chgOf
  split
  · rfl
  · rw [if_pos (by simpa [nKey] using h)]
theorem chgOf_gone {r : B} (h1 : ¬ (r.length < 3 ∨ 1 < (r.headD 0).toNat)) (h2 : ¬ (nKey r = 0 ∨ 300 < nKey r ∨ r.length - 3 < nKey r)) (h3 : r.headD 0 = 0) :
    chgOf r = some (⟨(r.drop 3).take (nKey r), [], true⟩, (r.drop 3).drop (nKey r)) := by
  unfold chgOf
  rw [if_neg h1]
  dsimp only
  rw [if_neg (by simpa [nKey] using h2), if_pos h3]
  rfl
theorem chgOf_bad3 {r : B} (h1 : ¬ (r.length < 3 ∨ 1 < (r.headD 0).toNat)) (h2 : ¬ (nKey r = 0 ∨ 300 < nKey r ∨ r.length - 3 < nKey r)) (h3 : r.headD 0 ≠ 0)
    (h4 : ((r.drop 3).drop (nKey r)).length < 4 ∨ 8192 < nVal ((r.drop 3).drop (nKey r)) ∨ ((r.drop 3).drop (nKey r)).length - 4 < nVal ((r.drop 3).drop (nKey r))) : chgOf r = none := by
  unfold chgOf
  rw [if_neg h1]
  dsimp only
  rw [if_neg (by simpa [nKey] using h2), if_neg h3]
  exact if_pos h4
theorem chgOf_val {r : B} (h1 : ¬ (r.length < 3 ∨ 1 < (r.headD 0).toNat)) (h2 : ¬ (nKey r = 0 ∨ 300 < nKey r ∨ r.length - 3 < nKey r)) (h3 : r.headD 0 ≠ 0)
    (h4 : ¬ (((r.drop 3).drop (nKey r)).length < 4 ∨ 8192 < nVal ((r.drop 3).drop (nKey r)) ∨ ((r.drop 3).drop (nKey r)).length - 4 < nVal ((r.drop 3).drop (nKey r)))) :
    chgOf r = some (⟨(r.drop 3).take (nKey r), (((r.drop 3).drop (nKey r)).drop 4).take (nVal ((r.drop 3).drop (nKey r))), false⟩, ((r.drop 3).drop (nKey r)).drop (4 + nVal ((r.drop 3).drop (nKey r)))) := by
  unfold chgOf
  rw [if_neg h1]
  dsimp only
  rw [if_neg (by simpa [nKey] using h2), if_neg h3]
  exact if_neg h4
theorem nKey_lt (r : B) : nKey r < 65536 := by
  have := leV_lt ((r.take 3).drop 1)
  refine Nat.lt_of_lt_of_le this ?_
  calc 256 ^ ((r.take 3).drop 1).length ≤ 256 ^ 2 := Nat.pow_le_pow_right (by omega) (by rw [List.length_drop, List.length_take]; omega)
    _ = 65536 := by decide
theorem nVal_lt (q : B) : nVal q < 4294967296 := by
  have := leV_lt (q.take 4)
  refine Nat.lt_of_lt_of_le this ?_
  calc 256 ^ (q.take 4).length ≤ 256 ^ 4 := Nat.pow_le_pow_right (by omega) (List.length_take_le _ _)
    _ = 4294967296 := by decide +kernel
end J
/-- What changesOf returns. -/
def ChRes (w : World) (l : List UInt8) (e : Ending) (w' : World) : Prop :=
  (match J.changesOf l with
   | none => e = .returned (.tuple #[.slice none 0 0, .bool false])
   | some L => ∃ v, e = .returned (.tuple #[v, .bool true]) ∧ ChRow w' (· < w.heap.size) w.heap.size v L) ∧ Below w.heap.size w w'
theorem below2 (w : World) (a b : Obj) : Below w.heap.size w ((w.alloc a).alloc b) := ((Below.refl _ _).alloc (Nat.le_refl _) _).alloc (by simp) _
theorem chRes_bad {w w' : World} {l r : List UInt8} {dn : List J.Chg} {e : Ending} (h : J.changesOf l = (J.changesOf r).map (dn ++ ·)) (h0 : r ≠ []) (hc : J.chgOf r = none) (he : e = .returned (.tuple #[.slice none 0 0, .bool false])) (hb : Below w.heap.size w w') : ChRes w l e w' := by
  refine ⟨?_, hb⟩
  rw [h, J.changesOf_none h0 hc]
  exact he
/-- What holds between two rounds of changesOf. -/
def ChLoop (w : World) (l : List UInt8) (b out : Value) (wr : World) : Prop :=
  ∃ (A : Option Addr) (nr cr : Nat) (r : List UInt8) (dn : List J.Chg), b = .slice A nr cr ∧ nr ≤ cr ∧ nr ≤ 90000000 ∧ By wr (w.heap.size ≤ ·) A nr r ∧ ChRow wr (· < w.heap.size) w.heap.size out dn ∧ dn.length + nr ≤ 90000000 ∧ J.changesOf l = (J.changesOf r).map (dn ++ ·) ∧ Below w.heap.size w wr
theorem Step.setCell {M : Nat → Prop} {w : World} {p : Addr} (h : M p.block) (v : Value) : Step M M w (w.setCell p v) :=
  ⟨rfl, rfl, rfl, by simp [World.setCell], fun k _ hn => Below.heap_setCell w p v k (fun e => hn (by rw [e]; exact h)), fun _ _ h => h⟩
theorem box_set {w : World} {g : Nat} {K x v : Value} {b : Bool} {t : TypeId} (h : w.heap[g]? = some (.cells #[K, x, .bool b] t (0, 0))) : (w.setCell ⟨g, 1, none⟩ v).heap[g]? = some (.cells #[K, v, .bool b] t (0, 0)) := by
  simp [World.setCell, Array.getElem?_modify, h]
theorem copied_part {A' : Option Addr} {b' o' nq cq V : Nat} {q : List UInt8} {W : World} {M : Nat → Prop} {A5 : Option Addr} (h5 : By W M A5 nq q) (e5 : A5 = some ⟨b', o', none⟩) (hb : b' < W.heap.size) (hA : Part A5 nq 4 (4 + V) A') (h4 : 4 + V ≤ nq) (hn : nq ≤ 90000000) (hc : nq ≤ cq) :
    Calls Tryz.prog 68 #[.slice A' V (cq - 4)] W fun e w' => ∃ v', e = .returned v' ∧ Slc w' (· < W.heap.size) v' ((q.drop 4).take V) ∧ Below W.heap.size W w' := by
  obtain ⟨o2, rfl⟩ := hA.2 b' o' e5
  have hby := hA.out W M _ h5
  have hq : q.length = nq := h5.1
  have el : (q.take (4 + V)).drop 4 = (q.drop 4).take V := by rw [List.drop_take]; congr 1; omega
  rw [el] at hby
  have e4 : 4 + V - 4 = V := by omega
  rw [e4] at hby
  have hl : ((q.drop 4).take V).length = V := hby.1
  have hsl : Sl W M (.slice (some ⟨b', o2, none⟩) ((q.drop 4).take V).length (cq - 4)) ((q.drop 4).take V) := .inr ⟨b', o2, cq - 4, rfl, by omega, hb, by rw [hl]; exact hby⟩
  have := copied_any _ _ W M hsl (by omega)
  rw [hl] at this
  exact this
theorem ChLoop.next {w w1 : World} {l r r' : List UInt8} {dn : List J.Chg} {c : J.Chg} {A' : Option Addr} {n' c' : Nat} {v' : Value} (hcl : J.changesOf l = (J.changesOf r).map (dn ++ ·)) (hne : r ≠ []) (hch : J.chgOf r = some (c, r')) (hby : By w1 (w.heap.size ≤ ·) A' n' r') (hn : n' ≤ c')
    (hd : dn.length + 1 + n' ≤ 90000000) (hrow : ChRow w1 (· < w.heap.size) w.heap.size v' (dn ++ [c])) (hb : Below w.heap.size w w1) : ChLoop w l (.slice A' n' c') v' w1 := by
  refine ⟨A', n', c', r', dn ++ [c], rfl, hn, by omega, hby, hrow, by simp; omega, ?_, hb⟩
  rw [hcl, J.changesOf_some hne hch, Option.map_map]
  congr 1
  funext t
  simp
theorem drop_part (r : List UInt8) (nr N : Nat) (h : r.length = nr) : (((r.take nr).drop 3).take (nr - 3)).drop N = (r.drop 3).drop N := by
  rw [List.take_of_length_le (show r.length ≤ nr by omega), List.take_of_length_le (by rw [List.length_drop]; omega)]
set_option maxHeartbeats 8000000 in
theorem changesOf_any (A : Option Addr) (n c : Nat) (l : List UInt8) (w : World) (M : Nat → Prop) (h : By w M A n l) (hc : n ≤ c) (hn : n ≤ 90000000) :
    Calls Tryz.prog 87 #[.slice A n c] w (ChRes w l) := by
  have hst : ChLoop w l (.slice A n c) (.slice none 0 0) w := ⟨A, n, c, l, [], rfl, hc, hn, h.old, ChRow.nil_ _ _ _, by simpa using hn, by simp, Below.refl _ _⟩
  have HST := Lib.hid hst
  clear hst h
  obtain ⟨i0, hi, hz0, hz1, hz2⟩ := info_parts Tryz.infoC
  go_enter Tryz.func87, Tryz.ntmps87
  go_wp2
  go_loopw [0, 4] (fun b out wr => ChLoop w l b out wr) (fun b _ _ => match b with | .slice _ n _ => n | _ => 0)
  case atStart => exact HST.out
  case round =>
    obtain ⟨A, nr, cr, r, dn, rfl, hcr, hnr, hby, hrow, hdn, hcl, hbel⟩ := hrel
    have hlen : r.length = nr := hby.1
    have HY := Lib.hid hby
    have HR := Lib.hid hrow
    have HB := Lib.hid hbel
    have HCL := Lib.hid hcl
    clear hby hrow hbel hcl
    by_cases h0 : nr = 0
    · subst h0
      obtain rfl : r = [] := List.eq_nil_of_length_eq_zero hlen
      have hx := HCL.out
      rw [J.changesOf_nil] at hx
      have HX := Lib.hid hx
      obtain ⟨vs, hv1, hv2, hv3⟩ := HR.out
      clear hx hlen
      go_wp2
      go_ret2
      exact ⟨by rw [HX.out]; exact ⟨_, rfl, by simpa using HR.out⟩, HB.out⟩
    have hne : r ≠ [] := fun e => h0 (by rw [← hlen, e]; rfl)
    have h0' : (0 : Int) < (nr : Int) := by omega
    by_cases h3 : nr < 3
    · have hx := HCL.out
      have HBAD := Lib.hid (fun e he w' hb => chRes_bad (w := w) (w' := w') (e := e) hx hne (J.chgOf_bad1 (.inl (by omega))) he hb)
      have h3' : (nr : Int) < 3 := by omega
      clear hx
      go_wp2
      go_ret2
      exact HBAD.out _ rfl _ HB.out
    have h3' : (3 : Int) ≤ (nr : Int) := by omega
    obtain ⟨b, o, rfl, hbl, _, hc0⟩ := HY.out.cell (k := 0) (by omega)
    rw [Nat.add_zero] at hc0
    have hx0 : r.headD 0 = r[0]'(by omega) := by cases r with | nil => exact absurd rfl hne | cons x t => rfl
    generalize r[0]'(by omega) = x0 at hc0 hx0
    have HX0 := Lib.hid hx0
    clear hx0
    by_cases hx1 : 1 < ((x0.toNat : Nat) : Int)
    · have hx := HCL.out
      have HBAD := Lib.hid (fun e he w' hb => chRes_bad (w := w) (w' := w') (e := e) hx hne (J.chgOf_bad1 (.inr (by rw [HX0.out]; omega))) he hb)
      clear hx
      go_wp2
      go_ret2
      exact HBAD.out _ rfl _ HB.out
    have hx1' : ((x0.toNat : Nat) : Int) ≤ 1 := by omega
    have hok1 : ¬ (r.length < 3 ∨ 1 < (r.headD 0).toNat) := by rw [HX0.out]; omega
    have HOK1 := Lib.hid hok1
    have HY13 := Lib.hid (show By wr (w.heap.size ≤ ·) (some ⟨b, o + 1, none⟩) 2 ((r.take 3).drop 1) from HY.out.slice 1 3 (by omega) (by omega))
    obtain ⟨N, hN⟩ : ∃ N, J.nKey r = N := ⟨_, rfl⟩
    have hNl : N ≤ 70000 := by rw [← hN]; have := J.nKey_lt r; omega
    have HN := Lib.hid hN
    have hN2 : J.leV ((r.take 3).drop 1) = N := hN
    have hNi : (N : Int) ≤ 70000 := by omega
    clear hok1 hN
    have hgt : ∀ w, By w NoM (some ⟨b, o + 1, none⟩) 2 ((r.take 3).drop 1) → Calls Tryz.prog 85 #[.slice (some ⟨b, o + 1, none⟩) 2 (cr - 1)] w fun e w' => e = .returned (.int .u64 (N : Nat)) ∧ w = w' := fun w h => by
      rw [← hN2]; exact get_any _ 2 _ _ w NoM h (by omega)
    have HGT := Lib.hid hgt
    clear hgt hN2
    by_cases hbad : N = 0 ∨ 300 < N ∨ nr - 3 < N
    · have hx := HCL.out
      have HBAD := Lib.hid (fun e he w' hb => chRes_bad (w := w) (w' := w') (e := e) hx hne (J.chgOf_bad2 (by rw [HN.out, hlen]; exact hbad)) he hb)
      have hcase : ((N : Int) == 0) = true ∨ (((N : Int) == 0) = false ∧ 300 < (N : Int)) ∨ (((N : Int) == 0) = false ∧ (N : Int) ≤ 300 ∧ (nr : Int) - 3 < (N : Int)) := by
        by_cases e0 : N = 0
        · left; simp [e0]
        · have e1 : ((N : Int) == 0) = false := by simp; omega
          by_cases e2 : 300 < N
          · right; left; exact ⟨e1, by omega⟩
          · right; right; exact ⟨e1, by omega, by omega⟩
      clear hx hbad
      rcases hcase with e1 | ⟨e1, e2⟩ | ⟨e1, e2, e3⟩
      all_goals
        go_wp2_with fail
        refine (HGT.out _ (HY13.out.noM.alloc _)).mono ?_
        rintro e w1 ⟨rfl, rfl⟩
        go_wp2_with (refine wpList_from rfl _ _ rfl (some ⟨b, o, none⟩) nr cr rfl 3 rfl (by omega) hcr ?_)
        intro A3 hA3
        clear hA3
        go_wp2
        go_ret2
        exact HBAD.out _ rfl _ (HB.out.alloc HB.out.size _)
    have hok2 : ¬ (J.nKey r = 0 ∨ 300 < J.nKey r ∨ r.length - 3 < J.nKey r) := by rw [HN.out, hlen]; exact hbad
    have HOK2 := Lib.hid hok2
    have e1 : ((N : Int) == 0) = false := by simp; omega
    have e2 : (N : Int) ≤ 300 := by omega
    have e3 : (N : Int) ≤ (nr : Int) - 3 := by omega
    have e4 : N ≤ nr - 3 := by omega
    have hrt : r.take nr = r := List.take_of_length_le (by omega)
    have HRT := Lib.hid hrt
    clear hok2 hbad hx1 h0 h3 hrt
    by_cases hg : x0 = 0
    · have hz : (((x0.toNat : Nat) : Int) == 0) = true := by rw [hg]; rfl
      have HG := Lib.hid hg
      clear hg
      go_wp2_with fail
      refine (HGT.out _ (HY13.out.noM.alloc _)).mono ?_
      rintro e w1 ⟨rfl, rfl⟩
      go_wp2_with (refine wpList_from rfl _ _ rfl (some ⟨b, o, none⟩) nr cr rfl 3 rfl (by omega) hcr ?_)
      intro A3 hA3
      have HA3 := Lib.hid hA3
      clear hA3
      go_wp2_with (refine wpList_to rfl _ _ rfl A3 (nr - 3) (cr - 3) rfl N rfl e4 (by omega) ?_)
      intro A4 hA4
      have HA4 := Lib.hid hA4
      clear hA4
      go_wp2_with (first
        | (refine wpList_str_by rfl _ rfl A4 N (cr - 3) rfl (HA4.out.out _ _ _ (HA3.out.out _ _ _ (HY.out.alloc _))) ?_)
        | (refine wpList_from rfl _ _ rfl A3 (nr - 3) (cr - 3) rfl N rfl e4 (by omega) ?_))
      intro A5 hA5
      have HA5 := Lib.hid hA5
      clear hA5
      obtain ⟨vs, hv1, hv2, hv3⟩ := HR.out
      have HV1 := Lib.hid hv1
      have HV2 := Lib.hid hv2
      have HV3 := Lib.hid hv3
      clear hv1 hv2 hv3
      go_wp2_with (at_builtin; refine wpList_append_own_at _ rfl _ _ 80 rfl w.heap.size 133 i0 _ 3 48 Tryz.underlying80 hi hz0 hz1 hz2 rfl (by decide) _ _ _ rfl ((HV2.out.alloc _).alloc _) ⟨wr.heap.size + 1, 0, none⟩ 1 1 [.string ⟨((r.take nr).drop 3 |>.take N).toArray⟩, .slice none 0 0, .bool true] rfl rfl (World.news_of_block (heap_alloc2_new wr _ _)) (by simp [Value.oneCell']) (by unfold maxLen; omega) (by omega) (by have := HB.out.size; simp; omega) ?_)
      intro v' w1 hown' hg3 hnil3 hloc3
      have hb2 : Below wr.heap.size wr ((wr.alloc (.cells #[.string ⟨((r.take nr).drop 3 |>.take N).toArray⟩, .slice none 0 0, .bool true] 133)).alloc (.cells #[.string ⟨((r.take nr).drop 3 |>.take N).toArray⟩, .slice none 0 0, .bool true] 133)) := below2 _ _ _
      have hrt3 : ((r.take nr).drop 3).take N = (r.drop 3).take N := by rw [HRT.out]
      rw [hrt3] at hown' hg3 hb2
      have hrowlt := HV2.out.lt
      have hst : ChLoop w l (.slice A5 (nr - 3 - N) (cr - 3 - N)) v' w1 := by
        refine ChLoop.next (c := ⟨(r.drop 3).take N, [], true⟩) (r' := (r.drop 3).drop N) HCL.out hne ?_ ?_ (by omega) (by omega) ?_ ?_
        · rw [J.chgOf_gone HOK1.out HOK2.out (by rw [HX0.out, HG.out]), HN.out]
        · rw [← drop_part r nr N hlen]
          refine HA5.out.out _ _ _ (HA3.out.out _ _ _ ((HY.out.below hb2).step (Step.of_grown hg3 (fun k hk _ => (hrowlt k hk).1))))
        · exact ChRow.push HV1.out HV3.out hb2 hown' hg3 (by rcases hloc3 with h | h; exact .inl h; exact .inr (by rw [h]; simp)) Slc.nil_
        · exact ((HB.out.trans (hb2.mono HB.out.size))).grown hg3 (by have := HB.out.size; simp; omega) (fun k hk => (hrowlt k hk).1)
      have HST2 := Lib.hid hst
      clear hst hown' hg3 hnil3 hloc3 hb2 hrt3 hrowlt
      go_wp2_with fail
      go_roundw
      case rel => exact HST2.out
      case measure => simp; omega
    · have hz : (((x0.toNat : Nat) : Int) == 0) = false := by
        simp only [beq_eq_false_iff_ne]
        intro h
        exact hg (UInt8.toNat_inj.1 (by show x0.toNat = 0; omega))
      have HG := Lib.hid (show r.headD 0 ≠ 0 by rw [HX0.out]; exact hg)
      have HQ4 := Lib.hid (J.nVal_lt ((r.drop 3).drop N))
      clear hg
      go_wp2_with fail
      refine (HGT.out _ (HY13.out.noM.alloc _)).mono ?_
      rintro e w1 ⟨rfl, rfl⟩
      go_wp2_with (refine wpList_from rfl _ _ rfl (some ⟨b, o, none⟩) nr cr rfl 3 rfl (by omega) hcr ?_)
      intro A3 hA3
      have HA3 := Lib.hid hA3
      clear hA3
      go_wp2_with (refine wpList_to rfl _ _ rfl A3 (nr - 3) (cr - 3) rfl N rfl e4 (by omega) ?_)
      intro A4 hA4
      have HA4 := Lib.hid hA4
      clear hA4
      go_wp2_with (first
        | (refine wpList_str_by rfl _ rfl A4 N (cr - 3) rfl (HA4.out.out _ _ _ (HA3.out.out _ _ _ (HY.out.alloc _))) ?_)
        | (refine wpList_from rfl _ _ rfl A3 (nr - 3) (cr - 3) rfl N rfl e4 (by omega) ?_))
      intro A5 hA5
      obtain ⟨nq, hnq⟩ : ∃ nq, nr - 3 - N = nq := ⟨_, rfl⟩
      obtain ⟨cq, hcq⟩ : ∃ cq, cr - 3 - N = cq := ⟨_, rfl⟩
      rw [hnq, hcq]
      have hncq : nq ≤ cq := by omega
      have hnq9 : nq ≤ 90000000 := by omega
      have hnqr : nq ≤ nr := by omega
      have hnqd : dn.length + 1 + nq ≤ 90000000 := by omega
      have hp5 : ∀ W M, By W M (some ⟨b, o, none⟩) nr r → By W M A5 nq ((r.drop 3).drop N) := fun W M h => by
        have := hA5.out W M _ (HA3.out.out W M _ h)
        rw [drop_part r nr N hlen, hnq] at this
        exact this
      have hql : ((r.drop 3).drop N).length = nq := by rw [List.length_drop, List.length_drop]; omega
      have HP5 := Lib.hid hp5
      have HQL := Lib.hid hql
      have hr3 : ((r.take nr).drop 3).take N = (r.drop 3).take N := by rw [HRT.out]
      rw [hr3]
      clear hA5 hnq hcq hp5 hql hr3 hcr hnr h0' h3' e3 e4 hx1' e2 e1 hNl hNi hdn
      by_cases h4 : nq < 4
      · have hd : decide ((nq : Int) < 4) = true := decide_eq_true (by omega)
        have hx := HCL.out
        have HBAD := Lib.hid (fun e he w' hb => chRes_bad (w := w) (w' := w') (e := e) hx hne (J.chgOf_bad3 HOK1.out HOK2.out HG.out (.inl (by rw [HN.out, HQL.out]; exact h4))) he hb)
        clear hx h4
        go_wp2
        go_ret2
        exact HBAD.out _ rfl _ (HB.out.alloc HB.out.size _)
      have hd : decide ((nq : Int) < 4) = false := decide_eq_false (by omega)
      have h4' : 4 ≤ nq := by omega
      have hgv : ∀ W M A', By W M (some ⟨b, o, none⟩) nr r → Part A5 nq 0 4 A' → ∀ c, Calls Tryz.prog 85 #[.slice A' 4 c] W fun e w' => e = .returned (.int .u64 (J.nVal ((r.drop 3).drop N) : Nat)) ∧ W = w' := fun W M A' h hA c => by
        have := hA.out W M _ (HP5.out W M h)
        exact get_any A' 4 c _ W M (by simpa using this) (by omega)
      obtain ⟨V, hV⟩ : ∃ V, J.nVal ((r.drop 3).drop N) = V := ⟨_, rfl⟩
      rw [hV] at hgv
      have hVl : V ≤ 4300000000 := by have := HQ4.out; omega
      have HV := Lib.hid hV
      have HGV := Lib.hid hgv
      clear hV hgv h4
      go_wp2_with (refine wpList_to rfl _ _ rfl A5 nq cq rfl 4 rfl h4' hncq ?_)
      intro A6 hA6
      have HA6 := Lib.hid hA6
      clear hA6
      go_wp2_with fail
      refine (HGV.out _ _ _ (HY.out.alloc _) HA6.out _).mono ?_
      rintro e w1 ⟨rfl, rfl⟩
      by_cases h8 : 8192 < V
      · have hd8 : decide ((8192 : Int) < (V : Int)) = true := decide_eq_true (by omega)
        have hx := HCL.out
        have HBAD := Lib.hid (fun e he w' hb => chRes_bad (w := w) (w' := w') (e := e) hx hne (J.chgOf_bad3 HOK1.out HOK2.out HG.out (.inr (.inl (by rw [HN.out, HV.out]; exact h8)))) he hb)
        clear hx h8
        go_wp2
        go_ret2
        exact HBAD.out _ rfl _ (HB.out.alloc HB.out.size _)
      have hd8 : decide ((8192 : Int) < (V : Int)) = false := decide_eq_false (by omega)
      have hV8 : V ≤ 8192 := by omega
      clear h8
      go_wp2_with (refine wpList_to rfl _ _ rfl A5 nq cq rfl 4 rfl h4' hncq ?_)
      intro A7 hA7
      have HA7 := Lib.hid hA7
      clear hA7
      go_wp2_with fail
      refine (HGV.out _ _ _ (HY.out.alloc _) HA7.out _).mono ?_
      rintro e w1 ⟨rfl, rfl⟩
      by_cases h9 : nq - 4 < V
      · have hd9 : decide ((nq : Int) - 4 < (V : Int)) = true := decide_eq_true (by omega)
        have hx := HCL.out
        have HBAD := Lib.hid (fun e he w' hb => chRes_bad (w := w) (w' := w') (e := e) hx hne (J.chgOf_bad3 HOK1.out HOK2.out HG.out (.inr (.inr (by rw [HN.out, HQL.out, HV.out]; exact h9)))) he hb)
        have h9' : (nq : Int) - 4 < (V : Int) := by omega
        clear hx h9
        go_wp2
        go_ret2
        exact HBAD.out _ rfl _ (HB.out.alloc HB.out.size _)
      have hd9 : decide ((nq : Int) - 4 < (V : Int)) = false := decide_eq_false (by omega)
      have h9' : (V : Int) ≤ (nq : Int) - 4 := by omega
      have h9n : 4 + V ≤ nq := by omega
      clear h9
      go_wp2_with (refine wpList_to rfl _ _ rfl A5 nq cq rfl 4 rfl h4' hncq ?_)
      intro A8 hA8
      have HA8 := Lib.hid hA8
      clear hA8
      go_wp2_with fail
      refine (HGV.out _ _ _ (HY.out.alloc _) HA8.out _).mono ?_
      rintro e w1 ⟨rfl, rfl⟩
      go_wp2_with (refine wpList_part rfl _ _ _ rfl A5 nq cq rfl 4 (4 + V) rfl rfl (by omega) h9n hncq ?_)
      intro A9 hA9
      have HA9 := Lib.hid hA9
      clear hA9
      go_wp2_with fail
      have hby5 := HP5.out _ _ (HY.out.alloc (.cells #[.string ⟨((r.drop 3).take N).toArray⟩, .slice none 0 0, .bool false] 133))
      obtain ⟨b5, o5, e5, hb5, -, -⟩ := hby5.cell (k := 0) (by omega)
      refine (copied_part hby5 e5 hb5 HA9.out h9n hnq9 hncq).mono ?_
      rintro e w2 ⟨v2, rfl, hsl, hb2⟩
      have hg2 : w2.heap[wr.heap.size]? = some (.cells #[.string ⟨((r.drop 3).take N).toArray⟩, .slice none 0 0, .bool false] 133 (0, 0)) := (hb2.block _ (by simp)).trans (heap_alloc_new wr _)
      have HG2 := Lib.hid hg2
      have hcr2 := fun j => cell_of_row w2 _ j _ _ _ hg2
      have hfr2 : ∀ j, w2.frozen? ⟨wr.heap.size, j, none⟩ = false := fun j => by simp [World.frozen?, hg2]
      have hvl : ((((r.drop 3).drop N).drop 4).take V).length = V := by rw [List.length_take, List.length_drop, HQL.out]; omega
      obtain ⟨A2, c2, e2, -, -⟩ := hsl.sl.by
      rw [hvl] at e2
      subst e2
      have HSL := Lib.hid hsl
      have hbw2 : Below wr.heap.size wr w2 := ((Below.refl _ _).alloc (Nat.le_refl _) _).trans (hb2.mono (by simp))
      have HBW2 := Lib.hid hbw2
      have hzw2 : wr.heap.size < w2.heap.size := by have := hb2.size; simp at this; omega
      clear hsl hb2 hg2 hbw2 hby5 e5 hb5 hvl
      go_wp2_with (refine wpList_from rfl _ _ rfl A5 nq cq rfl (4 + V) rfl h9n hncq ?_)
      intro AA hAA
      have HAA := Lib.hid hAA
      clear hAA
      go_upto_region 18 with fail
      have hg3 := box_set (v := .slice A2 V c2) HG2.out
      have hst3 : Step (· < wr.heap.size + 1) (· < wr.heap.size + 1) w2 (w2.setCell ⟨wr.heap.size, 1, none⟩ (.slice A2 V c2)) := Step.setCell (show wr.heap.size < wr.heap.size + 1 by omega) _
      have hbw3 : Below wr.heap.size wr (w2.setCell ⟨wr.heap.size, 1, none⟩ (.slice A2 V c2)) := HBW2.out.setCell (p := ⟨wr.heap.size, 1, none⟩) (Nat.le_refl _) _
      generalize w2.setCell ⟨wr.heap.size, 1, none⟩ (.slice A2 V c2) = W3 at hg3 hst3 hbw3 ⊢
      have hcr3 := fun j => cell_of_row W3 _ j _ _ _ hg3
      have HSL3 := Lib.hid ((HSL.out.weak (M' := (· < wr.heap.size + 1)) (fun k hk => by simp; omega)).step hst3)
      have HBW3 := Lib.hid hbw3
      obtain ⟨vs, hv1, hv2, hv3⟩ := HR.out
      have HV1 := Lib.hid hv1
      have HV2 := Lib.hid hv2
      have HV3 := Lib.hid hv3
      have hown3 := hv2.kept (row := none) ⟨hbw3.os, hbw3.tape, hbw3.output, hbw3.size, fun k hk _ => hbw3.block k hk⟩ (by cases h : u4.ownBlock with | none => exact .inl rfl | some x => exact .inr (by simp))
      have HO3 := Lib.hid hown3
      clear hv1 hv2 hv3 hown3 hbw3 hst3 hg3 hcr2 hfr2
      go_wp2_with (at_builtin; refine wpList_append_own_at _ rfl _ _ 80 rfl w.heap.size 133 i0 _ 3 48 Tryz.underlying80 hi hz0 hz1 hz2 rfl (by decide) _ _ _ rfl (HO3.out.alloc _) ⟨W3.heap.size, 0, none⟩ 1 1 [.string ⟨((r.drop 3).take N).toArray⟩, .slice A2 V c2, .bool false] rfl rfl (World.news_of_block (heap_alloc_new W3 _)) (by simp [Value.oneCell']) (by unfold maxLen; omega) (by omega) (by have := HB.out.size; have := HBW3.out.size; simp; omega) ?_)
      intro v' w1 hown' hg3 hnil3 hloc3
      have hrowlt := HV2.out.lt
      have hb2 : Below wr.heap.size wr (W3.alloc (.cells #[.string ⟨((r.drop 3).take N).toArray⟩, .slice A2 V c2, .bool false] 133)) := HBW3.out.alloc HBW3.out.size _
      have hst : ChLoop w l (.slice AA (nq - (4 + V)) (cq - (4 + V))) v' w1 := by
        refine ChLoop.next (c := ⟨(r.drop 3).take N, (((r.drop 3).drop N).drop 4).take V, false⟩) (r' := ((r.drop 3).drop N).drop (4 + V)) HCL.out hne ?_ ?_ (by omega) (by omega) ?_ ?_
        · rw [J.chgOf_val HOK1.out HOK2.out HG.out (by rw [HN.out, HQL.out, HV.out]; omega), HN.out, HV.out]
        · have := HAA.out.out _ _ _ (HP5.out _ _ ((HY.out.below hb2).step (Step.of_grown hg3 (fun k hk _ => (hrowlt k hk).1))))
          rwa [List.take_of_length_le (by rw [HQL.out]; exact Nat.le_refl _)] at this
        · refine ChRow.push HV1.out HV3.out hb2 hown' hg3 (by rcases hloc3 with h | h; exact .inl h; exact .inr (by rw [h]; simp)) ((HSL3.out.weak (fun k hk => ?_)).step (Step.of_below ((Below.refl _ _).alloc (Nat.le_refl _) _)))
          rcases hk with hk | hk
          · have := HB.out.size; omega
          · have := (hrowlt k hk).2; omega
        · exact ((HB.out.trans (hb2.mono HB.out.size))).grown hg3 (by have := HB.out.size; have := HBW3.out.size; simp; omega) (fun k hk => (hrowlt k hk).1)
      have HST2 := Lib.hid hst
      clear hst hown' hg3 hnil3 hloc3 hb2 hrowlt
      go_wp2_with fail
      go_roundw
      case rel => exact HST2.out
      case measure => simp; omega
end Go.Proofs.YtjbepnkchoaipaaGreat
/- A slice expression up to a place, at every world; Clip of what it gives. -/
namespace Go.Proofs.YtjbepnkchoaipaaGreat
open Go.RowKit Go.Lib
set_option maxRecDepth 100000
theorem run_slice_all {A : Option Addr} {n c : Nat} (i j : Nat) (hij : i ≤ j) (hj : j ≤ n) (hc : n ≤ c) (low high : Option Value)
    (hlow : low = some (.int .i64 i) ∨ (low = none ∧ i = 0)) (hhigh : high = some (.int .i64 j) ∨ (high = none ∧ j = n)) :
    ∃ A', (∀ w, (Instr.sliceAt 37 (.slice A n c) low high none).run Tryz.prog w = .ok (.slice A' (j - i) (c - i)) w) ∧ Part A n i j A' ∧ (A = none → A' = none) := by
  have hb : ∀ w, (Instr.sliceBounds true n c low high none).run Tryz.prog w = .ok (i, j, c) w := by
    intro w
    have e1 : (0 : Int) ≤ (i : Int) := by omega
    have e2 : (i : Int) ≤ (j : Int) := by omega
    have e3 : (j : Int) ≤ (c : Int) := by omega
    have e0 : (0 : Int) ≤ (j : Int) := by omega
    rcases hlow with rfl | ⟨rfl, rfl⟩ <;> rcases hhigh with rfl | ⟨rfl, rfl⟩
    · simp [Instr.sliceBounds, run_sliceBound _ _ _ _ _ e1 e2, run_sliceBound _ _ _ _ _ e0 e3]
    · simp [Instr.sliceBounds, run_sliceBound _ _ _ _ _ e1 e2]
    · simp [Instr.sliceBounds, run_sliceBound _ _ _ _ _ e0 e3]
    · simp [Instr.sliceBounds]
  have hsz : ∀ w, (sizeOf (Tryz.prog.elem 37)).run Tryz.prog w = .ok 1 w := fun w => by kernel_rfl
  have hrun : ∀ w, (Instr.sliceAt 37 (.slice A n c) low high none).run Tryz.prog w = .ok (sliced A i j c 1) w := by
    intro w
    rw [run_sliceAt_slice _ _ _ _ _ _ Tryz.underlying37, run_slice_any _ _ _ _ _ Tryz.underlying37, hb]
    simp [Result.andThen, hsz]
  refine ⟨_, hrun, ?_⟩
  rw [Nat.mul_one]
  refine ⟨⟨fun w M l h => ?_, fun b o e => by subst e; split <;> simp [add_mk]⟩, fun e => by subst e; split <;> rfl⟩
  refine ⟨by rw [List.length_drop, List.length_take, h.1]; omega, fun hn => ?_⟩
  obtain ⟨b, o, rfl, hb', hM, hcl⟩ := h.2 (by omega)
  rw [if_neg (by omega)]
  refine ⟨b, o + i, by simp [add_mk], hb', hM, fun k hk => ?_⟩
  rw [List.length_drop, List.length_take, h.1] at hk
  rw [Nat.add_assoc, hcl (i + k) (by rw [h.1]; omega)]
  simp
theorem clipB_opt (A : Option Addr) (n c : Nat) (w : World) (hc : n ≤ c) (h : A = none → n = 0 ∧ c = 0) :
    Calls Tryz.prog 59 #[.slice A n c] w fun e w' => e = .returned (.slice A n n) ∧ w = w' := by
  cases A with
  | some a => exact clipB_any a n c w hc
  | none => obtain ⟨rfl, rfl⟩ := h rfl; exact clipB_nil w
/-- Clip of the first bytes of a slice that fills itself. -/
theorem slc_take {w : World} {M : Nat → Prop} {B : Option Addr} {l : List UInt8} (h : Slc w M (.slice B l.length l.length) l) (j : Nat) (hj : j ≤ l.length) :
    ∃ A', (∀ w, (Instr.sliceAt 37 (.slice B l.length l.length) none (some (.int .i64 j)) none).run Tryz.prog w = .ok (.slice A' j l.length) w) ∧ Slc w M (.slice A' j j) (l.take j) ∧ ∀ w', Calls Tryz.prog 59 #[.slice A' j l.length] w' fun e w'' => e = .returned (.slice A' j j) ∧ w' = w'' := by
  obtain ⟨A', h1, h2, h3⟩ := run_slice_all (A := B) 0 j (Nat.zero_le _) hj (Nat.le_refl _) none _ (.inr ⟨rfl, rfl⟩) (.inl rfl)
  rcases h with ⟨e, h0⟩ | ⟨b, o, e, hbl, hlt, hM, hby⟩
  · injection e with e1 e2 e3
    subst e1 h0
    have hj0 : j = 0 := by simpa using hj
    subst hj0
    have hA := h3 rfl
    subst hA
    exact ⟨none, h1, .inl ⟨rfl, rfl⟩, fun w' => clipB_opt none 0 _ w' hj (fun _ => ⟨rfl, rfl⟩)⟩
  · injection e with e1 e2 e3
    subst e1
    obtain ⟨o', e'⟩ := h2.2 b o rfl
    have hb2 := h2.out w M l hby
    subst e'
    have hlen : (l.take j).length = j := by rw [List.length_take]; omega
    rw [Nat.sub_zero, List.drop_zero] at hb2
    refine ⟨_, h1, .inr ⟨b, o', by rw [hlen], by rw [hlen]; omega, hlt, hM, by rw [hlen]; exact hb2⟩, fun w' => clipB_opt _ j _ w' hj (fun e => by cases e)⟩
end Go.Proofs.YtjbepnkchoaipaaGreat
