import Derived.Test.YtjbepnkchoaipaaGreatM16
import Derived.Test.YtjbepnkchoaipaaGreatM06
import Derived.Test.YtjbepnkchoaipaaGreatM21
set_option linter.unusedVariables false
set_option linter.unusedSimpArgs false
/- Contract: Recover. -/
namespace Go.Proofs.YtjbepnkchoaipaaGreat
open Go.RowKit Go.Lib Go.Maps Go.WideMaps
set_option maxRecDepth 100000
theorem run_index2a (w : World) (x y : Value) : (Instr.index 65 (.agg #[x, y]) (.int .i64 0)).run Tryz.prog w = .ok x w := by
  simp [Instr.index, run_underlying Tryz.underlying65, asIntOf, go_sem]
theorem run_index2b (w : World) (x y : Value) : (Instr.index 65 (.agg #[x, y]) (.int .i64 1)).run Tryz.prog w = .ok y w := by
  simp [Instr.index, run_underlying Tryz.underlying65, asIntOf, go_sem]
/-- The current head behind one head, behind two. -/
def rh1 : Option (Nat × Nat) → Bool × Nat × Nat × Nat
  | none => (false, 0, 0, 1)
  | some (g, a) => (true, g, a, 0)
def rh2 : Option (Nat × Nat) → Option (Nat × Nat) → Nat × Nat × Nat
  | none, none => (0, 0, 1)
  | some (g, a), none => (g, a, 0)
  | none, some (g, a) => (g, a, 1)
  | some (g, a), some (g', a') => if g < g' then (g', a', 1) else (g, a, 0)
theorem rh_none {v0 : Option (Nat × Nat)} {fb : Bool} {g a sd : Nat} (h : (fb, g, a, sd) = rh1 v0) : (g, a, sd) = rh2 v0 none := by
  rcases v0 with _ | ⟨g0, a0⟩ <;> (simp [rh1] at h; simp [rh2, h])
theorem rh_some {v0 : Option (Nat × Nat)} {fb : Bool} {g a sd g1 a1 : Nat} (hc : fb = false ∨ g < g1) (h : (fb, g, a, sd) = rh1 v0) : (g1, a1, 1) = rh2 v0 (some (g1, a1)) := by
  rcases v0 with _ | ⟨g0, a0⟩
  · rfl
  · simp [rh1] at h
    obtain ⟨rfl, rfl, rfl, rfl⟩ := h
    have hc : g < g1 := by rcases hc with h | h; cases h; exact h
    simp [rh2, hc]
theorem rh_keep {v0 : Option (Nat × Nat)} {g a sd g1 a1 : Nat} (hc : ¬ g < g1) (h : (true, g, a, sd) = rh1 v0) : (g, a, sd) = rh2 v0 (some (g1, a1)) := by
  rcases v0 with _ | ⟨g0, a0⟩
  · simp [rh1] at h
  · simp [rh1] at h
    obtain ⟨rfl, rfl, rfl⟩ := h
    simp [rh2, hc]
theorem below_tr {a b c : World} {n : Nat} (h : Below n a b) (k : Below n b c) : Below n a c :=
  ⟨k.os.trans h.os, k.tape.trans h.tape, k.output.trans h.output, Nat.le_trans h.size k.size, fun i hi => (k.block i hi).trans (h.block i hi)⟩
theorem step_drewN {M : Nat → Prop} {w : World} (k : Nat) : Step M M w (w.drewN k) := ⟨rfl, rfl, rfl, Nat.le_refl _, fun _ _ _ => rfl, fun _ _ h => h⟩
theorem drewN_row {w : World} {g k : Nat} {o : Obj} (h : w.heap[g]? = some o) : (w.drewN k).heap[g]? = some o := h
theorem rh_cur (h0 h1 : J.B) : rh2 (J.valid h0) (J.valid h1) = J.current h0 h1 := by
  unfold rh2 J.current
  cases J.valid h0 <;> cases J.valid h1 <;> rfl
theorem heads_q {w3 wr : World} {p bn : Nat} {Mc : Nat → Prop} {bw : Option Nat} {ch wrv b0 b1 b2 b3 d0 d1 d2 d3 u0 u1 u2 u3 : Value} {h0 h1 a0 a1 : J.B} {g a sd : Nat} (r1 : w3.heap[p]? = some (.cells (stCells J.new bn bw ch wrv b0 b1 b2 b3 d0 d1 d2 d3) 83 (0, 0))) (r2 : Mc p)
    (r3 : Parts w3 Mc J.new bn bw ch wrv b0 b1 b2 b3 d0 d1 d2 d3) (hs : Step (· = p) (· = p) w3 wr) (k0 : Slc w3 Mc u0 h0) (k1 : Slc w3 Mc u1 h1) (k2 : Slc w3 Mc u2 a0) (k3 : Slc w3 Mc u3 a1)
    (hrow : wr.heap[p]? = some (.cells (stCells { J.new with gen := g, area := a, side := sd } bn bw ch wrv u0 u1 u2 u3 d0 d1 d2 d3) 83 (0, 0))) : StoreQ wr p Mc { J.new with gen := g, area := a, side := sd, base := ⟨h0, h1, a0, a1⟩ } ∧ Step Mc Mc w3 wr := by
  have hs' : Step Mc Mc w3 wr := ⟨hs.os, hs.tape, hs.output, hs.size, fun k hk hn => hs.block k hk (fun e => hn (e ▸ r2)), fun k _ h => h⟩
  have P := r3.keep hs' (fun k hk hm hc => ⟨hm, hs.block k hk (fun e => r3.ne r1 r2 (e ▸ hc))⟩)
  exact ⟨⟨bn, bw, ch, wrv, u0, u1, u2, u3, d0, d1, d2, d3, hrow, r2, P.now, P.mbn, P.was, P.chs, P.mch, P.wrs, k0.step hs', k1.step hs', k2.step hs', k3.step hs', P.e0, P.e1, P.e2, P.e3, P.dd⟩, hs'⟩
theorem slc_if {w : World} {M : Nat → Prop} {v : Value} {h : J.B} (k : Slc w M v h) : Slc w M (if J.valid h = none then .slice none 0 0 else v) (if J.valid h = none then [] else h) := by
  split
  · exact Slc.nil_
  · exact k
/-- What holds between two heads. -/
def RecL (w3 : World) (p bn : Nat) (bw : Option Nat) (ch wr b2 b3 d0 d1 d2 d3 x0 x1 : Value) (v0 v1 : Option (Nat × Nat)) (f i : Value) (W : World) : Prop :=
  ∃ (k : Nat) (fb : Bool) (g a sd : Nat) (u0 u1 : Value), i = .int .i64 k ∧ f = .bool fb ∧
    ((k = 0 ∧ fb = false ∧ g = 0 ∧ a = 0 ∧ sd = 1 ∧ u0 = x0 ∧ u1 = x1) ∨
     (k = 1 ∧ (fb, g, a, sd) = rh1 v0 ∧ u0 = (if v0 = none then .slice none 0 0 else x0) ∧ u1 = x1) ∨
     (k = 2 ∧ (g, a, sd) = rh2 v0 v1 ∧ u0 = (if v0 = none then .slice none 0 0 else x0) ∧ u1 = (if v1 = none then .slice none 0 0 else x1))) ∧
    W.heap[p]? = some (.cells (stCells { J.new with gen := g, area := a, side := sd } bn bw ch wr u0 u1 b2 b3 d0 d1 d2 d3) 83 (0, 0)) ∧ Step (· = p) (· = p) w3 W
/-- What holds between two records. -/
def RecT (W0 : World) (p : Nat) (s : J.St) (M : Nat → Prop) (l : J.B) (g : Nat) (i : Value) (W : World) : Prop :=
  ∃ (at_ c : Nat) (now : List (J.B × J.B)) (M' : Nat → Prop), i = .int .i64 at_ ∧ J.Reads g l 0 0 [] at_ c now ∧ StoreQ W p M' { s with commits := c, now := now } ∧ Step M M' W0 W
theorem StoreQ.drew {w : World} {p : Nat} {M : Nat → Prop} {s : J.St} (h : StoreQ w p M s) : StoreQ w.drew p M s := h.below (Below.refl _ _).drew
theorem slc_own {w : World} {M : Nat → Prop} {v : Value} {l : J.B} (h : Slc w M v l) {k : Nat} (e : v.ownBlock = some k) : ¬ M k := by
  rcases h with ⟨rfl, _⟩ | ⟨b, o, rfl, _, _, hM, _⟩
  · cases e
  · simp [Value.ownBlock] at e
    first | (subst e; exact hM) | (obtain ⟨rfl, _⟩ := e; exact hM) | (obtain ⟨_, rfl⟩ := e; exact hM)
/-- What Recover does. -/
def RecRes (w : World) (m : J.Img) (e : Ending) (w' : World) : Prop :=
  match J.recover m with
  | .ok s => ∃ p M, e = .returned (.tuple #[.pointer (some ⟨p, 0, none⟩), .int .i64 0]) ∧ StoreR w' p M s ∧ (∀ k, M k → w.heap.size ≤ k) ∧ Below w.heap.size w w'
  | .error er => e = .returned (.tuple #[.pointer none, .int .i64 er]) ∧ Below w.heap.size w w'
set_option maxHeartbeats 4000000 in
theorem recover_small (A0 A1 A2 A3 : Option Addr) (c0 c1 c2 c3 : Nat) (m : J.Img) (M : Nat → Prop) (w : World) (q0 : Sl w M (.slice A0 m.h0.length c0) m.h0) (q1 : Sl w M (.slice A1 m.h1.length c1) m.h1) (q2 : Sl w M (.slice A2 m.a0.length c2) m.a0) (q3 : Sl w M (.slice A3 m.a1.length c3) m.a1)
    (z0 : m.h0.length ≤ 90000000) (z1 : m.h1.length ≤ 90000000) (z2 : m.a0.length ≤ 8388608) (z3 : m.a1.length ≤ 8388608) (hmax : (max (m.a0.length : Int) (m.a1.length : Int)) ≤ 8388608) :
    Calls Tryz.prog 22 #[imgW (.slice A0 m.h0.length c0) (.slice A1 m.h1.length c1) (.slice A2 m.a0.length c2) (.slice A3 m.a1.length c3)] w (RecRes w m) := by
  have HB1 := Lib.hid ((Below.refl _ w).alloc (Nat.le_refl _) (.cells #[.slice A0 m.h0.length c0, .slice A1 m.h1.length c1, .slice A2 m.a0.length c2, .slice A3 m.a1.length c3] 67))
  have HX := Lib.hid (heap_alloc_new w (.cells #[.slice A0 m.h0.length c0, .slice A1 m.h1.length c1, .slice A2 m.a0.length c2, .slice A3 m.a1.length c3] 67))
  have HCI := Lib.hid (fun w1 (hb : Below w.heap.size w w1) => copiedImage_any A0 A1 A2 A3 _ _ _ _ c0 c1 c2 c3 m M w1 (q0.step (Step.of_below hb)) (q1.step (Step.of_below hb)) (q2.step (Step.of_below hb)) (q3.step (Step.of_below hb)) z0 z1 (by omega) (by omega))
  have hv0 : ∀ w1, Below w.heap.size w w1 → Calls Tryz.prog 57 #[.slice A0 m.h0.length c0] w1 fun e w' => e = .returned (validV m.h0) ∧ ∃ k, w' = w1.drewN k := fun w1 hb => by
    obtain ⟨A, c, e, hc, hby⟩ := (q0.step (Step.of_below hb)).by
    injection e with e1 e2 e3; subst e1 e3
    exact valid_any _ _ _ _ w1 M hby hc z0
  have hv1 : ∀ w1, Below w.heap.size w w1 → Calls Tryz.prog 57 #[.slice A1 m.h1.length c1] w1 fun e w' => e = .returned (validV m.h1) ∧ ∃ k, w' = w1.drewN k := fun w1 hb => by
    obtain ⟨A, c, e, hc, hby⟩ := (q1.step (Step.of_below hb)).by
    injection e with e1 e2 e3; subst e1 e3
    exact valid_any _ _ _ _ w1 M hby hc z1
  have HV0 := Lib.hid hv0
  have HV1 := Lib.hid hv1
  clear q0 q1 q2 q3 hv0 hv1
  have hia := run_index2a
  have hib := run_index2b
  go_enter Tryz.func22, Tryz.ntmps22
  go_wp2_with fail
  refine (new_any _).mono ?_
  rintro e w2 ⟨p, Ms, rfl, hst, hMs, hb2⟩
  generalize w.alloc (.cells #[.slice A0 m.h0.length c0, .slice A1 m.h1.length c1, .slice A2 m.a0.length c2, .slice A3 m.a1.length c3] 67) = w1 at *
  have hx2 := (hb2.block _ (Array.getElem?_eq_some_iff.1 HX.out).1).trans HX.out
  have hcm := fun j => cell_of_row w2 w.heap.size j _ _ _ hx2
  have HX2 := Lib.hid hx2
  have HB2 := Lib.hid (below_trans (Nat.le_refl _) HB1.out hb2)
  have HST := Lib.hid hst.q.1.cap
  have HMS := Lib.hid (fun k (hk : Ms k ∧ k < w2.heap.size) => Nat.le_trans HB1.out.size (hMs k hk.1))
  clear hb2 hx2 hst hMs
  go_wp2_with fail
  refine (HCI.out _ HB2.out).mono ?_
  rintro e w3 ⟨v3, rfl, himg, hb3⟩
  obtain ⟨y0, y1, y2, y3, rfl, k0, k1, k2, k3⟩ := himg
  obtain ⟨B0, rfl⟩ := k0.slice_
  obtain ⟨B1, rfl⟩ := k1.slice_
  obtain ⟨B2, rfl⟩ := k2.slice_
  obtain ⟨B3, rfl⟩ := k3.slice_
  obtain ⟨bn, bw, ch, wrv, b0, b1, b2, b3, d0, d1, d2, d3, r1, r2, r3⟩ := HST.out.below hb3
  have hcp := fun j => cell_of_row w3 p j _ _ _ r1
  have hfp := frozen_row r1
  have hx3 := (hb3.block _ (Array.getElem?_eq_some_iff.1 HX2.out).1).trans HX2.out
  have hcm3 := fun j => cell_of_row w3 w.heap.size j _ _ _ hx3
  have HB3 := Lib.hid (below_trans (Nat.le_refl _) HB2.out hb3)
  have R1 := Lib.hid r1
  have R2 := Lib.hid r2
  have R3 := Lib.hid r3
  have V0 := Lib.hid (k0.weak (M' := fun k => Ms k ∧ k < w2.heap.size) (fun k h => h.2))
  have V1 := Lib.hid (k1.weak (M' := fun k => Ms k ∧ k < w2.heap.size) (fun k h => h.2))
  have V2 := Lib.hid (k2.weak (M' := fun k => Ms k ∧ k < w2.heap.size) (fun k h => h.2))
  have V3 := Lib.hid (k3.weak (M' := fun k => Ms k ∧ k < w2.heap.size) (fun k h => h.2))
  have hpw := HMS.out p r2
  have HPW := Lib.hid hpw
  clear hcm hx3 hb3 k0 k1 k2 k3 r1 r2 r3 hpw
  go_wp2_with fail
  clear hcm3 hcp hfp
  have hst4 : RecL w3 p bn bw ch wrv (.slice B2 m.a0.length m.a0.length) (.slice B3 m.a1.length m.a1.length) d0 d1 d2 d3 (.slice B0 m.h0.length m.h0.length) (.slice B1 m.h1.length m.h1.length) (J.valid m.h0) (J.valid m.h1) (.bool false) (.int .i64 0) ((((w3.setCell ⟨p, 11, none⟩ (.slice B0 m.h0.length m.h0.length)).setCell ⟨p, 12, none⟩ (.slice B1 m.h1.length m.h1.length)).setCell ⟨p, 13, none⟩ (.slice B2 m.a0.length m.a0.length)).setCell ⟨p, 14, none⟩ (.slice B3 m.a1.length m.a1.length)) :=
    ⟨0, false, 0, 0, 1, _, _, rfl, rfl, .inl ⟨rfl, rfl, rfl, rfl, rfl, rfl, rfl⟩, blk_set (blk_set (blk_set (blk_set R1.out 11 _) 12 _) 13 _) 14 _, Step.of_grown (grown_set (grown_set (grown_set (grown_set (World.grownBy.refl w3 (some p)) 11 _) 12 _) 13 _) 14 _) (fun k e _ => by cases e; rfl)⟩
  generalize (((w3.setCell ⟨p, 11, none⟩ (.slice B0 m.h0.length m.h0.length)).setCell ⟨p, 12, none⟩ (.slice B1 m.h1.length m.h1.length)).setCell ⟨p, 13, none⟩ (.slice B2 m.a0.length m.a0.length)).setCell ⟨p, 14, none⟩ (.slice B3 m.a1.length m.a1.length) = W4 at hst4 ⊢
  have HST4 := Lib.hid hst4
  clear hst4
  go_loopw [5, 33] (fun f i wr => RecL w3 p bn bw ch wrv (.slice B2 m.a0.length m.a0.length) (.slice B3 m.a1.length m.a1.length) d0 d1 d2 d3 (.slice B0 m.h0.length m.h0.length) (.slice B1 m.h1.length m.h1.length) (J.valid m.h0) (J.valid m.h1) f i wr) (fun _ i _ => 2 - (intOf i).toNat)
  case atStart => exact HST4.out
  case round =>
    obtain ⟨k, fb, g, a, sd, u0, u1, rfl, rfl, hcase, hrow, hstep⟩ := hrel
    have HROW := Lib.hid hrow
    have hbw : Below w.heap.size w wr := below_tr HB3.out (hstep.below HB3.out.size (fun k e => by subst e; exact HPW.out))
    have HBW := Lib.hid hbw
    have HSTEP := Lib.hid hstep
    have hcr := fun j => cell_of_row wr p j _ _ _ hrow
    have hfr := frozen_row hrow
    clear hrow hstep hbw
    rcases hcase with ⟨rfl, rfl, rfl, rfl, rfl, rfl, rfl⟩ | ⟨rfl, hf, rfl, rfl⟩ | ⟨rfl, hf, rfl, rfl⟩
    · have HCV := Lib.hid (HV0.out _ HBW.out)
      cases hv : J.valid m.h0 with
      | none =>
        go_wp2_with fail
        refine HCV.out.mono ?_
        rintro e w5 ⟨rfl, kk, rfl⟩
        rw [show validV m.h0 = .tuple #[.int .u64 0, .int .i64 0, .bool false] by unfold validV; rw [hv]]
        go_wp2_with fail
        go_roundw
        case rel => exact ⟨1, false, 0, 0, 1, _, _, rfl, rfl, .inr (.inl ⟨rfl, rfl, rfl, rfl⟩), blk_set (drewN_row HROW.out) 11 _, HSTEP.out.trans ((step_drewN kk).trans (Step.of_grown (grown_set (World.grownBy.refl _ (some p)) 11 _) (fun k e _ => by cases e; rfl)))⟩
        case measure => decide
      | some ga =>
        obtain ⟨g1, a1⟩ := ga
        go_wp2_with fail
        refine HCV.out.mono ?_
        rintro e w5 ⟨rfl, kk, rfl⟩
        rw [show validV m.h0 = .tuple #[.int .u64 (g1 : Nat), .int .i64 (a1 : Nat), .bool true] by unfold validV; rw [hv]]
        go_wp2_with fail
        refine ⟨⟨1, true, g1, a1, 0, _, _, rfl, rfl, .inr (.inl ⟨rfl, rfl, rfl, rfl⟩), blk_set (blk_set (blk_set (drewN_row HROW.out) 8 _) 9 _) 10 _, HSTEP.out.trans ((step_drewN kk).trans (Step.of_grown (grown_set (grown_set (grown_set (World.grownBy.refl _ (some p)) 8 _) 9 _) 10 _) (fun k e _ => by cases e; rfl)))⟩, by decide⟩
    · have HCV := Lib.hid (HV1.out _ HBW.out)
      cases hv1 : J.valid m.h1 with
      | none =>
        have hv1' : validV m.h1 = .tuple #[.int .u64 0, .int .i64 0, .bool false] := by unfold validV; rw [hv1]
        have HF := Lib.hid hf
        clear hf hv1
        go_wp2_with fail
        refine HCV.out.mono ?_
        rintro e w5 ⟨rfl, kk, rfl⟩
        rw [hv1']
        go_wp2_with fail
        go_roundw
        case rel => exact ⟨2, fb, g, a, sd, _, _, rfl, rfl, .inr (.inr ⟨rfl, rh_none HF.out, rfl, rfl⟩), blk_set (drewN_row HROW.out) 12 _, HSTEP.out.trans ((step_drewN kk).trans (Step.of_grown (grown_set (World.grownBy.refl _ (some p)) 12 _) (fun k e _ => by cases e; rfl)))⟩
        case measure => decide
      | some ga =>
        obtain ⟨g1, a1⟩ := ga
        have hv1' : validV m.h1 = .tuple #[.int .u64 (g1 : Nat), .int .i64 (a1 : Nat), .bool true] := by unfold validV; rw [hv1]
        have HF := Lib.hid hf
        have hcase : fb = false ∨ (fb = true ∧ (g : Int) < (g1 : Int)) ∨ (fb = true ∧ ¬ (g : Int) < (g1 : Int)) := by cases fb <;> simp; omega
        clear hf hv1
        rcases hcase with rfl | ⟨rfl, hlt⟩ | ⟨rfl, hlt⟩
        · go_wp2_with fail
          refine HCV.out.mono ?_
          rintro e w5 ⟨rfl, kk, rfl⟩
          rw [hv1']
          go_wp2_with fail
          refine ⟨⟨2, true, g1, a1, 1, _, _, rfl, rfl, .inr (.inr ⟨rfl, rh_some (.inl rfl) HF.out, rfl, rfl⟩), blk_set (blk_set (blk_set (drewN_row HROW.out) 8 _) 9 _) 10 _, HSTEP.out.trans ((step_drewN kk).trans (Step.of_grown (grown_set (grown_set (grown_set (World.grownBy.refl _ (some p)) 8 _) 9 _) 10 _) (fun k e _ => by cases e; rfl)))⟩, by decide⟩
        · go_wp2_with fail
          refine HCV.out.mono ?_
          rintro e w5 ⟨rfl, kk, rfl⟩
          rw [hv1']
          go_wp2_with fail
          refine ⟨⟨2, true, g1, a1, 1, _, _, rfl, rfl, .inr (.inr ⟨rfl, rh_some (.inr (by omega)) HF.out, rfl, rfl⟩), blk_set (blk_set (blk_set (drewN_row HROW.out) 8 _) 9 _) 10 _, HSTEP.out.trans ((step_drewN kk).trans (Step.of_grown (grown_set (grown_set (grown_set (World.grownBy.refl _ (some p)) 8 _) 9 _) 10 _) (fun k e _ => by cases e; rfl)))⟩, by decide⟩
        · go_wp2_with fail
          refine HCV.out.mono ?_
          rintro e w5 ⟨rfl, kk, rfl⟩
          rw [hv1']
          go_wp2_with fail
          go_roundw
          case rel => exact ⟨2, true, g, a, sd, _, _, rfl, rfl, .inr (.inr ⟨rfl, rh_keep (by omega) HF.out, rfl, rfl⟩), drewN_row HROW.out, HSTEP.out.trans (step_drewN kk)⟩
          case measure => decide
    · have hcur := rh_cur m.h0 m.h1
      rw [← hf] at hcur
      obtain ⟨hq1, hq2⟩ := heads_q R1.out R2.out R3.out HSTEP.out (slc_if V0.out) (slc_if V1.out) V2.out V3.out HROW.out
      have hca := J.current_area m.h0 m.h1
      rw [← hcur] at hca
      have HCUR := Lib.hid hcur
      generalize hL0 : (if J.valid m.h0 = none then [] else m.h0 : J.B) = L0 at hq1
      generalize hL1 : (if J.valid m.h1 = none then [] else m.h1 : J.B) = L1 at hq1
      have HL0 := Lib.hid hL0
      have HL1 := Lib.hid hL1
      clear hL0 hL1
      have HQ := Lib.hid hq1
      have HQS := Lib.hid hq2
      have ha : a = 0 ∨ a = 1 := by have := hca.1; simp only at this; omega
      clear hf hcur hq1 hq2 hca
      generalize hu0 : (if J.valid m.h0 = none then (.slice none 0 0 : Value) else .slice B0 m.h0.length m.h0.length) = u0 at hcr
      generalize hu1 : (if J.valid m.h1 = none then (.slice none 0 0 : Value) else .slice B1 m.h1.length m.h1.length) = u1 at hcr
      rcases ha with rfl | rfl
      · obtain ⟨A, c, e1, hcn, hby⟩ := ((V2.out.sl).step HQS.out).by
        injection e1 with e1 e2 e3
        subst e1
        have HBY := Lib.hid hby
        clear e2 e3 hcn hby
        go_upto_region 15 with fail
        refine wp_region_plan 10 [(0, false), (1, false), (2, false), (3, false), (4, false), (5, false), (6, false), (7, false), (8, false), (9, false)] (fun W => W.heap[p]? = wr.heap[p]?) (by kernel_rfl) (by kernel_rfl) (fun c a d v w h => by cases d <;> exact h) rfl ?_
        repeat
          refine wpPlan_read (v := ?_) (by rfl) (by rfl) (fun w' hS => ?_) (fun K hK => ?_)
          rotate_left
          · have hcb := fun j => cell_of_row w' p j _ _ _ (hS.trans HROW.out)
            clear hS
            go_simp
            try with_reducible rfl
          go_simp
          refine hK _ ?_
          clear hK K
        show wpList _ _ _ _ _ _
        go_wp2_with fail
        clear hcr hfr
        have HBQ := Lib.hid (below_tr HB3.out (HQS.out.below HB3.out.size HMS.out))
        have hcu1 : (J.current m.h0 m.h1).1 = g := (congrArg (·.1) HCUR.out).symm
        have hcu2 : (J.current m.h0 m.h1).2.1 = 0 := (congrArg (·.2.1) HCUR.out).symm
        have hcu3 : (J.current m.h0 m.h1).2.2 = sd := (congrArg (·.2.2) HCUR.out).symm
        have HCU := Lib.hid (And.intro hcu1 (And.intro hcu2 hcu3))
        clear hcu1 hcu2 hcu3
        obtain ⟨wq, hwq⟩ : ∃ x, x = wr := ⟨_, rfl⟩
        subst hwq
        go_loopw [12, 13] (fun i _ W => RecT wq.drew p { J.new with gen := g, area := 0, side := sd, base := ⟨L0, L1, m.a0, m.a1⟩ } (fun k => Ms k ∧ k < w2.heap.size) m.a0 g i W) (fun i _ _ => m.a0.length - (intOf i).toNat)
        case atStart => exact ⟨0, 0, [], _, rfl, .refl _ _ _, HQ.out.drew, Step.refl _ _⟩
        case round =>
          obtain ⟨at_, cm, now, M', rfl, hrd, hst, hstep⟩ := hrel
          have hle := hrd.le.2 (Nat.zero_le _)
          have hcm := (hrd.fit J.fit_nil J.asc_nil (by omega)).2.2
          have hnl := J.reads_len hrd
          have hbyW : By wr M' B2 m.a0.length m.a0 := HBY.out.drew.step hstep
          have HBW := Lib.hid hbyW
          have HRD := Lib.hid hrd
          have HST := Lib.hid hst
          have HSTEP := Lib.hid hstep
          have HTK := Lib.hid (fun A' (hA : Part B2 m.a0.length at_ m.a0.length A') => take_all p M' _ A' (m.a0.length - at_) (m.a0.length - at_) _ (at_ == 0) wr M' hst (hA.out wr M' _ hbyW) (Nat.le_refl _) (by omega) (by show cm ≤ _; omega) (by show now.length + _ ≤ _; omega))
          have hMge : ∀ k, M' k → w.heap.size ≤ k := fun k hk => by
            by_cases hkq : k < wq.heap.size
            · exact HMS.out k (HSTEP.out.sub k hkq hk)
            · have := HBQ.out.size; omega
          have HMG := Lib.hid hMge
          have HBR := Lib.hid (below_tr HBQ.out.drew (HSTEP.out.below HBQ.out.size HMS.out))
          clear hMge
          have hbq : (((at_ : Nat) : Int) == 0) = (at_ == 0) := by cases at_ <;> rfl
          clear hrd hst hstep hbyW hcm hnl
          go_wp2_with (refine wpList_from rfl _ _ rfl B2 m.a0.length m.a0.length rfl at_ rfl hle (Nat.le_refl _) ?_)
          intro A' hA'
          have HA := Lib.hid (HTK.out A' hA')
          clear hA'
          go_wp2_with fail
          refine HA.out.mono ?_
          intro e w5 hres
          unfold TakeRes2 at hres
          simp only at hres
          cases htk : J.take g cm now ((m.a0.take m.a0.length).drop at_) (at_ == 0) with
          | stop =>
            rw [htk] at hres
            obtain ⟨rfl, rfl⟩ := hres
            have HTAKE := Lib.hid htk
            clear htk
            go_upto_region 22 with fail
            have hsr : Slc wr M' (.slice B2 m.a0.length m.a0.length) m.a0 := ((V2.out.step HQS.out).step (step_drewN 1)).step HSTEP.out
            obtain ⟨A2, hsl, hsc, hclip⟩ := slc_take hsr at_ hle
            have HSC := Lib.hid hsc
            obtain ⟨bn2, bw2, ch2, wr2, y0, y1, y2, y3, t0, t1, t2, t3, g1, g2, g3⟩ := HST.out
            have G1 := Lib.hid g1
            have G2 := Lib.hid g2
            have G3 := Lib.hid g3
            clear hsr hsc g1 g2 g3
            refine wp_region_plan 12 [(0, false), (1, false), (2, false), (3, false), (4, false), (5, false), (6, false), (7, false), (9, false), (10, false), (11, false), (8, true)] (fun W => W.heap[p]? = wr.heap[p]?) (by kernel_rfl) (by kernel_rfl) (fun c a d v w h => by cases d <;> exact h) rfl ?_
            repeat
              refine wpPlan_read (v := ?_) (by rfl) (by rfl) (fun w' hS => ?_) (fun K hK => ?_)
              rotate_left
              · have hcb := fun j => cell_of_row w' p j _ _ _ (hS.trans G1.out)
                clear hS
                go_simp
                try with_reducible exact hsl _
                try with_reducible rfl
              go_simp
              refine hK _ ?_
              clear hK K
            refine wpPlan_write (by rfl) (fun K hK => ?_)
            go_simp
            refine (hclip _).mono ?_
            rintro e w6 ⟨rfl, rfl⟩
            refine hK.out _ _ rfl ?_
            clear hK K
            show wpList _ _ _ _ _ _
            have hcz := fun j => cell_of_row wr p j _ _ _ G1.out
            have hfz := frozen_row G1.out
            obtain ⟨Y0, rfl⟩ := G3.out.f0.slice_
            obtain ⟨Y1, rfl⟩ := G3.out.f1.slice_
            obtain ⟨Y2, rfl⟩ := G3.out.f2.slice_
            obtain ⟨Y3, rfl⟩ := G3.out.f3.slice_
            go_wp2_with fail
            go_ret2
            have hg := grown_set (grown_set (grown_set (grown_set (grown_set (World.grownBy.refl wr (some p)) 13 (.slice A2 at_ at_)) 15 (.slice Y0 L0.length L0.length)) 16 (.slice Y1 L1.length L1.length)) 17 (.slice A2 at_ at_)) 18 (.slice Y3 m.a1.length m.a1.length)
            have hrow := blk_set (blk_set (blk_set (blk_set (blk_set G1.out 13 (.slice A2 at_ at_)) 15 (.slice Y0 L0.length L0.length)) 16 (.slice Y1 L1.length L1.length)) 17 (.slice A2 at_ at_)) 18 (.slice Y3 m.a1.length m.a1.length)
            have P := G3.out.own G1.out G2.out hg
            have sc := HSC.out.step (Step.of_grown (M := M') hg (fun k e _ => by cases e; exact G2.out))
            obtain ⟨e1, e2, e3⟩ := HCU.out
            have hrd := HRD.out
            have htk := HTAKE.out
            rw [List.take_length] at htk
            have hrd2 : J.Reads (J.current m.h0 m.h1).1 (m.area (J.current m.h0 m.h1).2.1) 0 0 [] at_ cm now := by rw [e1, e2]; exact hrd
            have hst2 : J.take (J.current m.h0 m.h1).1 cm now ((m.area (J.current m.h0 m.h1).2.1).drop at_) (at_ == 0) = .stop := by rw [e1, e2]; exact htk
            have hok := ok_recovered z2 z3 hrd2
            have hrec : J.recovered m at_ cm now = ⟨false, now, [], 0, false, [], cm, g, 0, sd, ⟨L0, L1, m.a0.take at_, m.a1⟩, ⟨L0, L1, m.a0.take at_, m.a1⟩, [], 0⟩ := by
              unfold J.recovered
              rw [← HCUR.out, HL0.out, HL1.out]
              rfl
            unfold RecRes
            rw [J.recover_stop z2 z3 hrd2 hst2]
            refine ⟨p, M', rfl, ?_, HMG.out, (HBR.out.grown hg HBR.out.size (fun k e => by cases e; exact HMG.out p G2.out)).drew⟩
            rw [hrec] at hok ⊢
            refine StoreR.below ?_ (Below.refl _ _).drew
            exact ⟨bn2, bw2, ch2, wr2, _, _, _, _, _, _, _, _, hrow, G2.out, ⟨P.now, P.mbn, P.was, P.chs, P.mch, P.wrs, P.f0, P.f1, sc, P.f3, P.f0.sl, P.f1.sl, .inr sc, .inr P.f3, fun k e2 _ m => slc_own sc e2 m⟩, hok⟩
          | bad er =>
            rw [htk] at hres
            obtain ⟨rfl, M2, hs2⟩ := hres
            have her : (er != 0) = true := by rcases J.take_bad_ne htk with rfl | rfl <;> rfl
            have HS2 := Lib.hid hs2
            have HTAKE := Lib.hid htk
            clear hs2 htk
            go_wp2_with fail
            go_ret2
            have hbad : J.recover m = .error er := by
              obtain ⟨e1, e2, e3⟩ := HCU.out
              refine J.recover_bad z2 z3 (at_ := at_) (commits := cm) (now := now) ?_ ?_
              · rw [e1, e2]; exact HRD.out
              · rw [e1, e2]; have := HTAKE.out; rw [List.take_length] at this; exact this
            unfold RecRes
            rw [hbad]
            exact ⟨rfl, below_tr HBR.out (HS2.out.below HBR.out.size HMG.out)⟩
          | took n c2 now2 =>
            rw [htk] at hres
            obtain ⟨rfl, M2, hq2, hs2⟩ := hres
            have HQ2 := Lib.hid hq2
            have HS2 := Lib.hid hs2
            have HTAKE := Lib.hid htk
            have hn13 := (J.take_ext htk rfl).2
            rw [List.length_drop, List.length_take, Nat.min_self] at hn13
            have hnz : ((n : Int) == 0) = false := by simp; omega
            clear hs2 hq2 htk
            go_wp2_with fail
            go_roundw
            case rel =>
              refine ⟨at_ + n, c2, now2, M2, by go_num, ?_, HQ2.out, HSTEP.out.trans HS2.out⟩
              have h := HTAKE.out
              rw [List.take_length] at h
              exact HRD.out.trans (.step h (.refl _ _ _))
            case measure => simp [intOf]; omega
      · obtain ⟨A, c, e1, hcn, hby⟩ := ((V3.out.sl).step HQS.out).by
        injection e1 with e1 e2 e3
        subst e1
        have HBY := Lib.hid hby
        clear e2 e3 hcn hby
        go_upto_region 15 with fail
        refine wp_region_plan 10 [(0, false), (1, false), (2, false), (3, false), (4, false), (5, false), (6, false), (7, false), (8, false), (9, false)] (fun W => W.heap[p]? = wr.heap[p]?) (by kernel_rfl) (by kernel_rfl) (fun c a d v w h => by cases d <;> exact h) rfl ?_
        repeat
          refine wpPlan_read (v := ?_) (by rfl) (by rfl) (fun w' hS => ?_) (fun K hK => ?_)
          rotate_left
          · have hcb := fun j => cell_of_row w' p j _ _ _ (hS.trans HROW.out)
            clear hS
            go_simp
            try with_reducible rfl
          go_simp
          refine hK _ ?_
          clear hK K
        show wpList _ _ _ _ _ _
        go_wp2_with fail
        clear hcr hfr
        have HBQ := Lib.hid (below_tr HB3.out (HQS.out.below HB3.out.size HMS.out))
        have hcu1 : (J.current m.h0 m.h1).1 = g := (congrArg (·.1) HCUR.out).symm
        have hcu2 : (J.current m.h0 m.h1).2.1 = 1 := (congrArg (·.2.1) HCUR.out).symm
        have hcu3 : (J.current m.h0 m.h1).2.2 = sd := (congrArg (·.2.2) HCUR.out).symm
        have HCU := Lib.hid (And.intro hcu1 (And.intro hcu2 hcu3))
        clear hcu1 hcu2 hcu3
        obtain ⟨wq, hwq⟩ : ∃ x, x = wr := ⟨_, rfl⟩
        subst hwq
        go_loopw [12, 13] (fun i _ W => RecT wq.drew p { J.new with gen := g, area := 1, side := sd, base := ⟨L0, L1, m.a0, m.a1⟩ } (fun k => Ms k ∧ k < w2.heap.size) m.a1 g i W) (fun i _ _ => m.a1.length - (intOf i).toNat)
        case atStart => exact ⟨0, 0, [], _, rfl, .refl _ _ _, HQ.out.drew, Step.refl _ _⟩
        case round =>
          obtain ⟨at_, cm, now, M', rfl, hrd, hst, hstep⟩ := hrel
          have hle := hrd.le.2 (Nat.zero_le _)
          have hcm := (hrd.fit J.fit_nil J.asc_nil (by omega)).2.2
          have hnl := J.reads_len hrd
          have hbyW : By wr M' B3 m.a1.length m.a1 := HBY.out.drew.step hstep
          have HBW := Lib.hid hbyW
          have HRD := Lib.hid hrd
          have HST := Lib.hid hst
          have HSTEP := Lib.hid hstep
          have HTK := Lib.hid (fun A' (hA : Part B3 m.a1.length at_ m.a1.length A') => take_all p M' _ A' (m.a1.length - at_) (m.a1.length - at_) _ (at_ == 0) wr M' hst (hA.out wr M' _ hbyW) (Nat.le_refl _) (by omega) (by show cm ≤ _; omega) (by show now.length + _ ≤ _; omega))
          have hMge : ∀ k, M' k → w.heap.size ≤ k := fun k hk => by
            by_cases hkq : k < wq.heap.size
            · exact HMS.out k (HSTEP.out.sub k hkq hk)
            · have := HBQ.out.size; omega
          have HMG := Lib.hid hMge
          have HBR := Lib.hid (below_tr HBQ.out.drew (HSTEP.out.below HBQ.out.size HMS.out))
          clear hMge
          have hbq : (((at_ : Nat) : Int) == 0) = (at_ == 0) := by cases at_ <;> rfl
          clear hrd hst hstep hbyW hcm hnl
          go_wp2_with (refine wpList_from rfl _ _ rfl B3 m.a1.length m.a1.length rfl at_ rfl hle (Nat.le_refl _) ?_)
          intro A' hA'
          have HA := Lib.hid (HTK.out A' hA')
          clear hA'
          go_wp2_with fail
          refine HA.out.mono ?_
          intro e w5 hres
          unfold TakeRes2 at hres
          simp only at hres
          cases htk : J.take g cm now ((m.a1.take m.a1.length).drop at_) (at_ == 0) with
          | stop =>
            rw [htk] at hres
            obtain ⟨rfl, rfl⟩ := hres
            have HTAKE := Lib.hid htk
            clear htk
            go_upto_region 22 with fail
            have hsr : Slc wr M' (.slice B3 m.a1.length m.a1.length) m.a1 := ((V3.out.step HQS.out).step (step_drewN 1)).step HSTEP.out
            obtain ⟨A2, hsl, hsc, hclip⟩ := slc_take hsr at_ hle
            have HSC := Lib.hid hsc
            obtain ⟨bn2, bw2, ch2, wr2, y0, y1, y2, y3, t0, t1, t2, t3, g1, g2, g3⟩ := HST.out
            have G1 := Lib.hid g1
            have G2 := Lib.hid g2
            have G3 := Lib.hid g3
            clear hsr hsc g1 g2 g3
            refine wp_region_plan 12 [(0, false), (1, false), (2, false), (3, false), (4, false), (5, false), (6, false), (7, false), (9, false), (10, false), (11, false), (8, true)] (fun W => W.heap[p]? = wr.heap[p]?) (by kernel_rfl) (by kernel_rfl) (fun c a d v w h => by cases d <;> exact h) rfl ?_
            repeat
              refine wpPlan_read (v := ?_) (by rfl) (by rfl) (fun w' hS => ?_) (fun K hK => ?_)
              rotate_left
              · have hcb := fun j => cell_of_row w' p j _ _ _ (hS.trans G1.out)
                clear hS
                go_simp
                try with_reducible exact hsl _
                try with_reducible rfl
              go_simp
              refine hK _ ?_
              clear hK K
            refine wpPlan_write (by rfl) (fun K hK => ?_)
            go_simp
            refine (hclip _).mono ?_
            rintro e w6 ⟨rfl, rfl⟩
            refine hK.out _ _ rfl ?_
            clear hK K
            show wpList _ _ _ _ _ _
            have hcz := fun j => cell_of_row wr p j _ _ _ G1.out
            have hfz := frozen_row G1.out
            obtain ⟨Y0, rfl⟩ := G3.out.f0.slice_
            obtain ⟨Y1, rfl⟩ := G3.out.f1.slice_
            obtain ⟨Y2, rfl⟩ := G3.out.f2.slice_
            obtain ⟨Y3, rfl⟩ := G3.out.f3.slice_
            go_wp2_with fail
            go_ret2
            have hg := grown_set (grown_set (grown_set (grown_set (grown_set (World.grownBy.refl wr (some p)) 14 (.slice A2 at_ at_)) 15 (.slice Y0 L0.length L0.length)) 16 (.slice Y1 L1.length L1.length)) 17 (.slice Y2 m.a0.length m.a0.length)) 18 (.slice A2 at_ at_)
            have hrow := blk_set (blk_set (blk_set (blk_set (blk_set G1.out 14 (.slice A2 at_ at_)) 15 (.slice Y0 L0.length L0.length)) 16 (.slice Y1 L1.length L1.length)) 17 (.slice Y2 m.a0.length m.a0.length)) 18 (.slice A2 at_ at_)
            have P := G3.out.own G1.out G2.out hg
            have sc := HSC.out.step (Step.of_grown (M := M') hg (fun k e _ => by cases e; exact G2.out))
            obtain ⟨e1, e2, e3⟩ := HCU.out
            have hrd := HRD.out
            have htk := HTAKE.out
            rw [List.take_length] at htk
            have hrd2 : J.Reads (J.current m.h0 m.h1).1 (m.area (J.current m.h0 m.h1).2.1) 0 0 [] at_ cm now := by rw [e1, e2]; exact hrd
            have hst2 : J.take (J.current m.h0 m.h1).1 cm now ((m.area (J.current m.h0 m.h1).2.1).drop at_) (at_ == 0) = .stop := by rw [e1, e2]; exact htk
            have hok := ok_recovered z2 z3 hrd2
            have hrec : J.recovered m at_ cm now = ⟨false, now, [], 0, false, [], cm, g, 1, sd, ⟨L0, L1, m.a0, m.a1.take at_⟩, ⟨L0, L1, m.a0, m.a1.take at_⟩, [], 0⟩ := by
              unfold J.recovered
              rw [← HCUR.out, HL0.out, HL1.out]
              rfl
            unfold RecRes
            rw [J.recover_stop z2 z3 hrd2 hst2]
            refine ⟨p, M', rfl, ?_, HMG.out, (HBR.out.grown hg HBR.out.size (fun k e => by cases e; exact HMG.out p G2.out)).drew⟩
            rw [hrec] at hok ⊢
            refine StoreR.below ?_ (Below.refl _ _).drew
            exact ⟨bn2, bw2, ch2, wr2, _, _, _, _, _, _, _, _, hrow, G2.out, ⟨P.now, P.mbn, P.was, P.chs, P.mch, P.wrs, P.f0, P.f1, P.f2, sc, P.f0.sl, P.f1.sl, .inr P.f2, .inr sc, fun k e2 _ m => slc_own P.f2 e2 m⟩, hok⟩
          | bad er =>
            rw [htk] at hres
            obtain ⟨rfl, M2, hs2⟩ := hres
            have her : (er != 0) = true := by rcases J.take_bad_ne htk with rfl | rfl <;> rfl
            have HS2 := Lib.hid hs2
            have HTAKE := Lib.hid htk
            clear hs2 htk
            go_wp2_with fail
            go_ret2
            have hbad : J.recover m = .error er := by
              obtain ⟨e1, e2, e3⟩ := HCU.out
              refine J.recover_bad z2 z3 (at_ := at_) (commits := cm) (now := now) ?_ ?_
              · rw [e1, e2]; exact HRD.out
              · rw [e1, e2]; have := HTAKE.out; rw [List.take_length] at this; exact this
            unfold RecRes
            rw [hbad]
            exact ⟨rfl, below_tr HBR.out (HS2.out.below HBR.out.size HMG.out)⟩
          | took n c2 now2 =>
            rw [htk] at hres
            obtain ⟨rfl, M2, hq2, hs2⟩ := hres
            have HQ2 := Lib.hid hq2
            have HS2 := Lib.hid hs2
            have HTAKE := Lib.hid htk
            have hn13 := (J.take_ext htk rfl).2
            rw [List.length_drop, List.length_take, Nat.min_self] at hn13
            have hnz : ((n : Int) == 0) = false := by simp; omega
            clear hs2 hq2 htk
            go_wp2_with fail
            go_roundw
            case rel =>
              refine ⟨at_ + n, c2, now2, M2, by go_num, ?_, HQ2.out, HSTEP.out.trans HS2.out⟩
              have h := HTAKE.out
              rw [List.take_length] at h
              exact HRD.out.trans (.step h (.refl _ _ _))
            case measure => simp [intOf]; omega
end Go.Proofs.YtjbepnkchoaipaaGreat
