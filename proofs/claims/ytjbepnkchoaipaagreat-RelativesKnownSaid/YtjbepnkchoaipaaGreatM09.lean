import Derived.Test.YtjbepnkchoaipaaGreatM08
import Derived.StillTailTactics
import Derived.Deep.RegionLaw
import Derived.Test.YtjbepnkchoaipaaGreatM00
set_option linter.unusedVariables false
set_option linter.unusedSimpArgs false
/- Contracts: apply. -/
namespace Go.Proofs.YtjbepnkchoaipaaGreat
open Go.RowKit Go.Lib Go.Maps Go.WideMaps
set_option maxRecDepth 100000
set_option maxHeartbeats 4000000 in
theorem apply_put (p bn : Nat) (M : Nat → Prop) (m : List (J.B × J.B)) (C : Array Value) (key : ByteArray) (A : Option Addr) (n c : Nat) (val : List UInt8) (w : World) (hp : w.heap[p]? = some (.cells C 83 (0, 0))) (hC : C[2]? = some (.map (some bn))) (hm : MapR w M bn m)
    (hM : M bn) (hk : key.size ≤ maxLen) (hs : Slc w M (.slice A n c) val) (hlen : m.length ≤ 100000000) :
    Calls Tryz.prog 88 #[.pointer (some ⟨p, 0, none⟩), .agg #[.string key, .slice A n c, .bool false]] w fun e w' => e = .returned (.bool true) ∧ MapR w' M bn (J.ins m key.data.toList val) ∧ w.grownBy w' (some bn) := by
  have hpl : p < w.heap.size := (Array.getElem?_eq_some_iff.1 hp).1
  have hcm : w.cell? ⟨p, 2, none⟩ = some (.map (some bn)) := (cell_of_row w p 2 _ _ _ hp).trans hC
  have hkey : keyOf Tryz.prog 9 (.string key) = some (.string key.data.toList) := keyOf_string_mk Tryz.underlying9 hk
  have HK := Lib.hid hkey
  have HM := Lib.hid hm
  have HS := Lib.hid hs
  have hcm1 : (w.alloc (.cells #[.string key, .slice A n c, .bool false] 133)).cell? ⟨p, 2, none⟩ = some (.map (some bn)) := (World.cell?_alloc_lt w _ ⟨p, 2, none⟩ hpl).trans hcm
  have hb0 := fun j => World.cell?_alloc_new w #[.string key, .slice A n c, .bool false] 133 j
  clear hp hC hm hs hkey
  go_enter Tryz.func88, Tryz.ntmps88
  go_wp2_with fail
  generalize hW : w.alloc (.cells #[.string key, .slice A n c, .bool false] 133) = W at hcm1 hb0 ⊢
  have HW := Lib.hid hW
  clear hW
  go_still_tail 8, (by kernel_rfl)
  have hm := HM.out
  obtain ⟨D, hown, hasc, hhas, hval⟩ := HM.out
  have hsz : Maps.size D ≤ 100000000 := by rw [hm.size_eq hown hhas]; exact hlen
  obtain ⟨d, hd⟩ := vElem_slc HS.out
  have hown2 : W.drew.ownsMap Tryz.prog 9 vElem bn (Maps.size D) D := by rw [← HW.out]; exact (hown.alloc _).drew
  have HO2 := Lib.hid hown2
  have HOwn := Lib.hid hown
  have HH := Lib.hid hhas
  have HV := Lib.hid hval
  clear hm hown hasc hhas hval hown2
  go_wp2_with (at_mapUpdate; refine wpList_mapUpdate_own _ rfl _ _ _ 79 rfl 9 37 lawS Tryz.underlying79 vElem bn (Maps.size D) D rfl HO2.out (by unfold maxLen; omega) _ _ _ rfl rfl HK.out d [] hd ?_)
  intro w3 hown3 hg3
  have hb : Below w.heap.size w W.drew := by rw [← HW.out]; exact ((Below.refl _ _).alloc (Nat.le_refl _) _).drew
  have hg : w.grownBy w3 (some bn) := ⟨hg3.os.trans hb.os, hg3.tape.trans hb.tape, hg3.output.trans hb.output, Nat.le_trans hb.size hg3.size, fun k hk hn => (hg3.block k (Nat.lt_of_lt_of_le hk hb.size) hn).trans (hb.block k hk)⟩
  have hres := MapR.put (M' := M) HM.out HOwn.out HH.out HV.out hd HS.out hown3 (Step.of_grown hg (fun k e _ => by cases e; exact hM))
  have HRes := Lib.hid hres
  have HG := Lib.hid hg
  clear hown3 hg3 hb hg hres
  go_wp2_with fail
  go_ret
  exact ⟨rfl, HRes.out, HG.out⟩
set_option maxHeartbeats 4000000 in
theorem apply_gone (p bn : Nat) (M : Nat → Prop) (m : List (J.B × J.B)) (C : Array Value) (key : ByteArray) (A : Option Addr) (n c : Nat) (w : World) (hp : w.heap[p]? = some (.cells C 83 (0, 0))) (hC : C[2]? = some (.map (some bn))) (hm : MapR w M bn m)
    (hM : M bn) (hk : key.size ≤ maxLen) :
    Calls Tryz.prog 88 #[.pointer (some ⟨p, 0, none⟩), .agg #[.string key, .slice A n c, .bool true]] w fun e w' => e = .returned (.bool (J.look m key.data.toList).isSome) ∧ MapR w' M bn (J.del m key.data.toList) ∧ w.grownBy w' (some bn) := by
  have hpl : p < w.heap.size := (Array.getElem?_eq_some_iff.1 hp).1
  have hcm : w.cell? ⟨p, 2, none⟩ = some (.map (some bn)) := (cell_of_row w p 2 _ _ _ hp).trans hC
  have hkey : keyOf Tryz.prog 9 (.string key) = some (.string key.data.toList) := keyOf_string_mk Tryz.underlying9 hk
  have HK := Lib.hid hkey
  have HM := Lib.hid hm
  have hcm1 : (w.alloc (.cells #[.string key, .slice A n c, .bool true] 133)).cell? ⟨p, 2, none⟩ = some (.map (some bn)) := (World.cell?_alloc_lt w _ ⟨p, 2, none⟩ hpl).trans hcm
  have hb0 := fun j => World.cell?_alloc_new w #[.string key, .slice A n c, .bool true] 133 j
  clear hp hC hm hkey
  go_enter Tryz.func88, Tryz.ntmps88
  go_wp2_with fail
  obtain ⟨D, hown, hasc, hhas, hval⟩ := HM.out
  have hown1 := hown.alloc (.cells #[.string key, .slice A n c, .bool true] 133)
  have hbw : Below w.heap.size w (w.alloc (.cells #[.string key, .slice A n c, .bool true] 133)) := (Below.refl _ _).alloc (Nat.le_refl _) _
  generalize w.alloc (.cells #[.string key, .slice A n c, .bool true] 133) = W at hcm1 hb0 hown1 hbw ⊢
  have hlk : ∃ v, ∀ n, (Instr.lookup 79 (.map (some bn)) (.string key) true).run Tryz.prog (W.drewN n) = .ok (.tuple #[v, .bool (J.look m key.data.toList).isSome]) (W.drewN n) := by
    have hl : ∀ n, ∃ v ps, (Instr.lookup 79 (.map (some bn)) (.string key) true).run Tryz.prog (W.drewN n) = .ok (.tuple #[v, .bool (Maps.has D (.string key.data.toList))]) (W.drewN n) ∧ vElem v = some (D.atKey (.string key.data.toList) .nil, ps) := fun n =>
      World.ownsMap.look_ok (w := W.drewN n) hown1 lawS Tryz.underlying79 (zeroB _) (show vElem (.slice none 0 0) = some (.nil, []) from rfl) HK.out
    obtain ⟨v, ps, _, hv⟩ := hl 0
    refine ⟨v, fun n => ?_⟩
    obtain ⟨v2, ps2, h2, hv2⟩ := hl n
    rw [h2, vElem_inj hv2 hv, hhas]
  obtain ⟨v, hlk⟩ := hlk
  have HOW := Lib.hid hown
  have HO1 := Lib.hid hown1
  have HH := Lib.hid hhas
  have HV := Lib.hid hval
  have HB := Lib.hid hbw
  clear hown hown1 hasc hhas hval hbw
  generalize hit : (J.look m key.data.toList).isSome = isThere at hlk
  have HIT := Lib.hid hit
  clear hit
  go_quiet (fail)
  have hcm2 : (W.drewN nq).cell? ⟨p, 2, none⟩ = some (.map (some bn)) := hcm1
  have hb2 : ∀ j, (W.drewN nq).cell? ⟨w.heap.size, j, none⟩ = (#[.string key, .slice A n c, .bool true] : Array Value)[j]? := hb0
  have HO2 : Hid ((W.drewN nq).ownsMap Tryz.prog 9 vElem bn (Maps.size D) D) := HO1.out
  have HB2 : Hid (Below w.heap.size w (W.drewN nq)) := ⟨HB.out.os, HB.out.tape, HB.out.output, HB.out.size, HB.out.block⟩
  generalize W.drewN nq = W2 at hcm2 hb2 HO2 HB2 ⊢
  clear hcm1 hb0 hlk HO1 HB
  go_wp2_with fail
  go_still_tail 6, (by kernel_rfl)
  have HO3 : Hid (W2.drew.ownsMap Tryz.prog 9 vElem bn (Maps.size D) D) := HO2.out
  go_wp2_with (at_delete; refine wpList_delete_own _ rfl _ _ 79 9 rfl 37 lawS Tryz.underlying79 vElem bn (Maps.size D) D rfl HO3.out _ _ rfl HK.out ?_)
  intro w3 hown3 hturn3
  have hg3 := hturn3.grown
  have hb : Below w.heap.size w W2.drew := HB2.out.drew
  have hg : w.grownBy w3 (some bn) := ⟨hg3.os.trans hb.os, hg3.tape.trans hb.tape, hg3.output.trans hb.output, Nat.le_trans hb.size hg3.size, fun k hk hn => (hg3.block k (Nat.lt_of_lt_of_le hk hb.size) hn).trans (hb.block k hk)⟩
  have hres := MapR.del (M' := M) HM.out HOW.out HH.out HV.out hown3 (Step.of_grown hg (fun k e _ => by cases e; exact hM))
  have HRes := Lib.hid hres
  have HG := Lib.hid hg
  clear hown3 hg3 hb hg hres hturn3
  go_wp2_with fail
  go_ret
  exact ⟨by rw [HIT.out]; rfl, HRes.out, HG.out⟩
end Go.Proofs.YtjbepnkchoaipaaGreat
/- Contract: add. -/
namespace Go.Proofs.YtjbepnkchoaipaaGreat
open Go.RowKit Go.Lib Go.Maps Go.WideMaps
set_option maxRecDepth 100000
theorem step_app_ch {ops : Array Oper} {o : Oper} {a : Act} {w : World} {K : Act → World → Prop} {Q : Exit → Act → World → Prop} {E : Prop} (hgd : o.guard = none) (s x : Operand) (ho : o.op = .call { callee := .builtin .append, args := #[s, x], argTypes := #[80, 80] })
    (v : Value) (n : Nat) (xs : List Value) (hs : a.eval s = v) (hown : w.ownsRow 0 133 3 v n xs) (ad : Addr) (m c : Nat) (news : List Value) (hx : a.eval x = .slice (some ad) m c) (hl : news.length = m * 3) (hnews : ∀ j u, news[j]? = some u → w.cell? (ad.add j) = some u) (h1 : ∀ u ∈ news, u.oneCell' = true)
    (hb : n + m ≤ 100000000)
    (h : ∀ v' w', w'.ownsRow 0 133 3 v' (n + m) (xs ++ news) → w.grownBy w' v.ownBlock → (v'.ownBlock = v.ownBlock ∨ v'.ownBlock = some w.heap.size) → K (a.put o.dst v') w') :
    if Region.wanted o (yielded ops a.tmps) = true then Oper.wp Tryz.prog o a w K Q else E := by
  obtain ⟨i0, hi, hz0, hz1, hz2⟩ := info_parts Tryz.infoC
  have hw : Region.wanted o (yielded ops a.tmps) = true := by simp [Region.wanted, hgd]
  rw [if_pos hw]
  obtain ⟨v', w', hrun, h2, h3, h4, h5⟩ := run_append_own_at (P := Tryz.prog) w 0 80 o.type 133 i0 _ 3 48 Tryz.underlying80 hi hz0 hz1 hz2 rfl (by decide) v n xs hown ad m c news hl hnews h1 (by unfold maxLen; omega) (by omega) (Nat.zero_le _)
  unfold Oper.wp execOp
  simp only [ho, resolve, invoke, builtin, Sem.run_bind, Sem.run_pure, Result.andThen_ok, List.map_toArray, List.map_cons, List.map_nil, hs, hx, hrun]
  exact h v' w' h2 h3 h5
set_option maxHeartbeats 4000000 in
theorem add_full (p : Nat) (M : Nat → Prop) (s : J.St) (key : ByteArray) (A : Option Addr) (n c : Nat) (gone : Bool) (w : World) (h : StoreR w p M s) (hk : key.size ≤ 1000) (hn : n ≤ 10000)
    (hbig : 4194304 - s.size < 3 + key.size + if gone then 0 else 4 + n) :
    Calls Tryz.prog 74 #[.pointer (some ⟨p, 0, none⟩), .agg #[.string key, .slice A n c, .bool gone]] w fun e w' => e = .returned (.int .i64 9) ∧ StoreR w' p M { s with spoilt := true } ∧ Step M M w w' := by
  obtain ⟨bn, bw, ch, wr, b0, b1, b2, b3, d0, d1, d2, d3, h1, h2, h3, h4⟩ := h
  have H1 := Lib.hid h1
  have H2 := Lib.hid h2
  have H3 := Lib.hid h3
  have H4 := Lib.hid h4
  have hpl : p < w.heap.size := (Array.getElem?_eq_some_iff.1 h1).1
  have hsz := h4.size
  have hB : Below w.heap.size w (w.alloc (.cells #[.string key, .slice A n c, .bool gone] 133)) := (Below.refl _ _).alloc (Nat.le_refl _) _
  have hr1 := (hB.block p hpl).trans h1
  have hc := fun j => cell_of_row _ p j _ _ _ hr1
  have hf := frozen_row hr1
  have hb0 := fun j => World.cell?_alloc_new w #[.string key, .slice A n c, .bool gone] 133 j
  have HB := Lib.hid hB
  have HR1 := Lib.hid hr1
  clear h1 h2 h3 h4 hB hr1
  go_enter Tryz.func74, Tryz.ntmps74
  go_upto_region 1 with fail
  generalize hW : w.alloc (.cells #[.string key, .slice A n c, .bool gone] 133) = W at hc hf hb0 HB HR1 ⊢
  clear hW
  cases gone with
  | true =>
    have hb : (4194304 : Int) - (s.size : Int) < 3 + (key.size : Int) := by simp at hbig; omega
    clear hbig
    go_wp2_with fail
    go_ret
    have hg := grown_set (World.grownBy.refl W (some p)) 5 (.bool true)
    have hrow := blk_set HR1.out 5 (.bool true)
    refine ⟨rfl, ⟨bn, bw, ch, wr, b0, b1, b2, b3, d0, d1, d2, d3, hrow, H2.out, ?_, ?_⟩, go_step H2.out HB.out hg (fun _ _ => Iff.rfl)⟩
    · have P := H3.out.go H1.out H2.out HB.out hg (fun _ _ => Iff.rfl)
      exact ⟨P.now, P.mbn, P.was, P.chs, P.mch, P.wrs, P.f0, P.f1, P.f2, P.f3, P.e0, P.e1, P.e2, P.e3, P.dd⟩
    · have o := H4.out
      exact ⟨o.size, o.commits, o.gen, o.area, o.side, o.logged, o.writes, o.chs, o.encs, o.clo, o.a0, o.a1, o.h0, o.h1, o.now, o.was⟩
  | false =>
    have hb : (4194304 : Int) - (s.size : Int) < 3 + (key.size : Int) + (4 + (n : Int)) := by simp at hbig; omega
    clear hbig
    go_wp2_with fail
    go_ret
    have hg := grown_set (World.grownBy.refl W (some p)) 5 (.bool true)
    have hrow := blk_set HR1.out 5 (.bool true)
    refine ⟨rfl, ⟨bn, bw, ch, wr, b0, b1, b2, b3, d0, d1, d2, d3, hrow, H2.out, ?_, ?_⟩, go_step H2.out HB.out hg (fun _ _ => Iff.rfl)⟩
    · have P := H3.out.go H1.out H2.out HB.out hg (fun _ _ => Iff.rfl)
      exact ⟨P.now, P.mbn, P.was, P.chs, P.mch, P.wrs, P.f0, P.f1, P.f2, P.f3, P.e0, P.e1, P.e2, P.e3, P.dd⟩
    · have o := H4.out
      exact ⟨o.size, o.commits, o.gen, o.area, o.side, o.logged, o.writes, o.chs, o.encs, o.clo, o.a0, o.a1, o.h0, o.h1, o.now, o.was⟩
end Go.Proofs.YtjbepnkchoaipaaGreat
/- The parts of a store where its map or its changes turn. -/
namespace Go.Proofs.YtjbepnkchoaipaaGreat
open Go.RowKit Go.Lib Go.Maps Go.WideMaps
set_option maxRecDepth 100000
theorem own_ne_map {w : World} {base : Nat} {e : TypeId} {size n g : Nat} {v : Value} {xs : List Value} {M : Nat → Prop} {m : List (J.B × J.B)} (h : w.ownsRow base e size v n xs) (hg : MapR w M g m) : v.ownBlock ≠ some g := by
  obtain ⟨D, ⟨es, clock, hb, _⟩, _⟩ := hg
  rcases h.2 with ⟨rfl, _⟩ | ⟨g', cap, cur, rfl, _, hh, _⟩
  · simp [Value.ownBlock]
  · intro he
    have : g' = g := by simpa [Value.ownBlock] using he
    subst this
    rw [hb] at hh
    injection hh with hh
    cases hh
theorem area_ne_map {w : World} {g : Nat} {v : Value} {l : List UInt8} {M : Nat → Prop} {m : List (J.B × J.B)} (h : Area w M v l) (hg : MapR w M g m) (hM : M g) : v.ownBlock ≠ some g := by
  rcases h with ⟨h1, _⟩ | ⟨rfl, _⟩ | ⟨b, o, rfl, _, hb, hy, _⟩
  · exact own_ne_map h1 hg
  · simp [Value.ownBlock]
  · simp [Value.ownBlock]; rintro rfl; exact hy hM
theorem area_lt {w : World} {M : Nat → Prop} {v : Value} {l : List UInt8} (ha : Area w M v l) (k : Nat) (e : v.ownBlock = some k) : k < w.heap.size := by
  rcases ha with ⟨h1, _⟩ | ⟨rfl, _⟩ | ⟨b, o, rfl, _, ⟨hb, _⟩, _, _⟩
  · exact (h1.lt k e).2
  · cases e
  · simp [Value.ownBlock] at e; omega
section
variable {w w' : World} {M M' : Nat → Prop} {s : J.St} {bn : Nat} {bw : Option Nat} {ch wr b0 b1 b2 b3 d0 d1 d2 d3 : Value}
/-- The map turns. -/
theorem Parts.map {m : List (J.B × J.B)} (h : Parts w M s bn bw ch wr b0 b1 b2 b3 d0 d1 d2 d3) (hg : w.grownBy w' (some bn)) (hm : MapR w' M bn m) : Parts w' M { s with now := m } bn bw ch wr b0 b1 b2 b3 d0 d1 d2 d3 := by
  have hs : Step M M w w' := Step.of_grown hg (fun k e _ => by cases e; exact h.mbn)
  have hb : ∀ k, k < w.heap.size → k ≠ bn → w'.heap[k]? = w.heap[k]? := fun k hk hn => hg.block k hk (fun e => hn (by injection e))
  refine ⟨hm, h.mbn, ?_, h.chs.keep hs h.mch (fun k e => ?_), h.mch, h.wrs.keep hs (fun k e => ?_) (fun k e => ?_), h.f0.step hs, h.f1.step hs, h.f2.step hs, h.f3.step hs, h.e0.step hs, h.e1.step hs,
    h.e2.keep hs (fun k _ m => m) (fun k e _ => hb k (area_lt h.e2 k e) (fun e' => area_ne_map h.e2 h.now h.mbn (e' ▸ e))), h.e3.keep hs (fun k _ m => m) (fun k e _ => hb k (area_lt h.e3 k e) (fun e' => area_ne_map h.e3 h.now h.mbn (e' ▸ e))), h.dd⟩
  · cases bw with
    | none => exact h.was
    | some b => obtain ⟨g1, g2, g3, g4⟩ := h.was; exact ⟨g1, g2.step hs (hb b g2.lt g4), g3, g4⟩
  · obtain ⟨vs, _, h2, _⟩ := h.chs; exact hb k (h2.lt k e).2 (fun e' => own_ne_map h2 h.now (e' ▸ e))
  · obtain ⟨vs, _, _, h2, _⟩ := h.wrs; exact h2 k e
  · obtain ⟨vs, _, h2, _⟩ := h.wrs; exact hb k (h2.lt k e).2 (fun e' => own_ne_map h2 h.now (e' ▸ e))
/-- A change is added: what turns is its row. -/
theorem Parts.chTurn {L : List J.Chg} {v' : Value} {n : Nat} (h : Parts w M s bn bw ch wr b0 b1 b2 b3 d0 d1 d2 d3) (hs : Step M M' w w') (hsub : ∀ k, M k → M' k) (hg : ∀ k, k < w.heap.size → ch.ownBlock ≠ some k → w'.heap[k]? = w.heap[k]?) (hc : ChRow w' M' 0 v' L) (hmc : ∀ k, v'.ownBlock = some k → M' k) :
    Parts w' M' { s with changes := L, size := n } bn bw v' wr b0 b1 b2 b3 d0 d1 d2 d3 := by
  obtain ⟨vs, g1, g2, g3⟩ := h.chs
  have hrow : ∀ {e : TypeId} {v : Value} {base size n : Nat} {xs : List Value}, e ≠ 133 → w.ownsRow base e size v n xs → ∀ k, v.ownBlock = some k → ch.ownBlock ≠ some k := by
    intro e v base size n xs he hr k hk hck
    rcases g2.2 with ⟨rfl, _⟩ | ⟨g', cap, cur, rfl, _, hh, _⟩
    · simp [Value.ownBlock] at hck
    · have : g' = k := by simpa [Value.ownBlock] using hck
      subst this
      exact own_ne_row hr hh he hk
  have harea : ∀ {v : Value} {l : List UInt8}, Area w M v l → ∀ k, v.ownBlock = some k → ch.ownBlock ≠ some k := by
    intro v l ha k hk
    rcases ha with ⟨h1, _⟩ | ⟨rfl, _⟩ | ⟨b, o, rfl, _, hb, hy, _⟩
    · exact hrow (by decide) h1 k hk
    · cases hk
    · simp [Value.ownBlock] at hk; subst hk; exact fun e => hy (h.mch _ e)
  refine ⟨h.now.step hs (hg bn h.now.lt (own_ne_map g2 h.now)), hsub _ h.mbn, ?_, hc, hmc, h.wrs.keep hs (fun k e => ?_) (fun k e => ?_), h.f0.step hs, h.f1.step hs, h.f2.step hs, h.f3.step hs, h.e0.step hs, h.e1.step hs,
    h.e2.keep hs (fun k _ m => hsub k m) (fun k e _ => hg k (area_lt h.e2 k e) (harea h.e2 k e)), h.e3.keep hs (fun k _ m => hsub k m) (fun k e _ => hg k (area_lt h.e3 k e) (harea h.e3 k e)),
    fun k e2 e3 m => h.dd k e2 e3 (hs.sub k (area_lt h.e2 k e2) m)⟩
  · cases bw with
    | none => exact h.was
    | some b => obtain ⟨q1, q2, q3, q4⟩ := h.was; exact ⟨q1, q2.step hs (hg b q2.lt (own_ne_map g2 q2)), hsub _ q3, q4⟩
  · obtain ⟨vs, _, _, h2, _⟩ := h.wrs; exact hsub _ (h2 k e)
  · obtain ⟨vs, _, h2, _⟩ := h.wrs; exact hg k (h2.lt k e).2 (hrow (by decide) h2 k e)
end
end Go.Proofs.YtjbepnkchoaipaaGreat
/- add: what the append of the change and the two stores leave behind. -/
namespace Go.Proofs.YtjbepnkchoaipaaGreat
open Go.RowKit Go.Lib Go.Maps Go.WideMaps
set_option maxRecDepth 100000
section
variable {w W w1 : World} {M : Nat → Prop} {s : J.St} {bn : Nat} {bw : Option Nat} {ch wr b0 b1 b2 b3 d0 d1 d2 d3 v1 x : Value} {p : Nat} {o : Obj} {C : Array Value}
/-- The world behind the append. -/
theorem add_app {vs : List Value} {L : List J.Chg} {cg : J.Chg} (h : Parts w M s bn bw ch wr b0 b1 b2 b3 d0 d1 d2 d3) (hL : s.changes = L) (hb : Below w.heap.size w W) (h1 : vs.length = L.length) (h3 : ∀ i (h : i < L.length) (h' : i < vs.length), Slc w (fun k => M k ∨ ch.ownBlock = some k) vs[i] L[i].val)
    (hx : Slc w M x cg.val)
    (hown : w1.ownsRow 0 133 3 v1 (L.length + 1) (chCells L vs ++ [.string ⟨cg.key.toArray⟩, x, .bool cg.gone])) (hg : W.grownBy w1 ch.ownBlock) (hl : v1.ownBlock = ch.ownBlock ∨ v1.ownBlock = some W.heap.size) (n : Nat) :
    Parts w1 (fun k => M k ∨ v1.ownBlock = some k) { s with changes := L ++ [cg], size := n } bn bw v1 wr b0 b1 b2 b3 d0 d1 d2 d3 ∧ Step M (fun k => M k ∨ v1.ownBlock = some k) w w1 := by
  subst hL
  have hchl : ∀ k, ch.ownBlock = some k → k < w.heap.size := fun k e => by obtain ⟨vs, _, h2, _⟩ := h.chs; exact (h2.lt k e).2
  have hMc : ∀ k, (M k ∨ ch.ownBlock = some k) ↔ M k := fun k => ⟨fun e => e.elim id (h.mch k), .inl⟩
  have hst : Step M (fun k => M k ∨ v1.ownBlock = some k) w w1 := by
    refine ⟨hg.os.trans hb.os, hg.tape.trans hb.tape, hg.output.trans hb.output, Nat.le_trans hb.size hg.size, fun k hk hn => ?_, fun k hk e => ?_⟩
    · exact (hg.block k (Nat.lt_of_lt_of_le hk hb.size) (fun e => hn (h.mch k e.symm))).trans (hb.block k hk)
    · rcases e with e | e
      · exact e
      · rcases hl with e' | e'
        · exact h.mch k (e' ▸ e)
        · rw [e'] at e; injection e with e; have := hb.size; omega
  refine ⟨h.chTurn hst (fun k => .inl) (fun k hk hn => (hg.block k (Nat.lt_of_lt_of_le hk hb.size) (fun e => hn e.symm)).trans (hb.block k hk)) ?_ (fun k e => .inr e), hst⟩
  have hf : (fun k => M k ∨ ch.ownBlock = some k) = M := funext fun k => propext (hMc k)
  have hr : ChRow w1 M 0 v1 (s.changes ++ [cg]) := ChRow.push h1 h3 hb hown hg hl (by rw [hf]; exact hx.step (Step.of_below hb))
  obtain ⟨vs', q1, q2, q3⟩ := hr
  refine ⟨vs', q1, q2, fun i hi hi' => ?_⟩
  have := q3 i hi hi'
  rwa [show (fun k => (M k ∨ v1.ownBlock = some k) ∨ v1.ownBlock = some k) = (fun k => M k ∨ v1.ownBlock = some k) from funext fun k => propext ⟨fun e => e.elim id .inr, .inl⟩]
/-- The two stores and the call of apply behind it. -/
theorem add_mid (h : Parts w1 M s bn bw ch wr b0 b1 b2 b3 d0 d1 d2 d3) (hp : w1.heap[p]? = some (.cells C 83 (0, 0))) (hm : M p) (u v : Value) :
    Parts ((w1.setCell ⟨p, 3, none⟩ u).setCell ⟨p, 4, none⟩ v) M s bn bw ch wr b0 b1 b2 b3 d0 d1 d2 d3 ∧ ((w1.setCell ⟨p, 3, none⟩ u).setCell ⟨p, 4, none⟩ v).heap[p]? = some (.cells ((C.setIfInBounds 3 u).setIfInBounds 4 v) 83 (0, 0)) ∧ Step M M w1 ((w1.setCell ⟨p, 3, none⟩ u).setCell ⟨p, 4, none⟩ v) := by
  have hg := grown_set (grown_set (World.grownBy.refl w1 (some p)) 3 u) 4 v
  exact ⟨h.own hp hm hg, blk_set (blk_set hp 3 u) 4 v, Step.of_grown hg (fun k e _ => by cases e; exact hm)⟩
theorem add_fin {w2 w3 : World} {m : List (J.B × J.B)} (h : Parts w2 M s bn bw ch wr b0 b1 b2 b3 d0 d1 d2 d3) (hp : w2.heap[p]? = some (.cells (stCells s bn bw ch wr b0 b1 b2 b3 d0 d1 d2 d3) 83 (0, 0))) (hm : M p)
    (hg : w2.grownBy w3 (some bn)) (hr : MapR w3 M bn m) (hok : Ok { s with now := m }) : StoreR w3 p M { s with now := m } ∧ Step M M w2 w3 := by
  have hpl : p < w2.heap.size := (Array.getElem?_eq_some_iff.1 hp).1
  have hne : p ≠ bn := fun e => h.ne hp hm (.inl e)
  exact ⟨⟨bn, bw, ch, wr, b0, b1, b2, b3, d0, d1, d2, d3, (hg.block p hpl (fun e => hne (by injection e))).trans hp, hm, h.map hg hr, hok⟩, Step.of_grown hg (fun k e _ => by cases e; exact h.mbn)⟩
end
theorem add_cells (s : J.St) (bn : Nat) (bw : Option Nat) (ch v1 wr b0 b1 b2 b3 d0 d1 d2 d3 : Value) (L : List J.Chg) (n : Nat) (z : Int) (hz : z = (n : Nat)) :
    ((stCells s bn bw ch wr b0 b1 b2 b3 d0 d1 d2 d3).setIfInBounds 3 v1).setIfInBounds 4 (.int .i64 z) = stCells { s with changes := L, size := n } bn bw v1 wr b0 b1 b2 b3 d0 d1 d2 d3 := by subst hz; rfl
theorem add_ok {s : J.St} {c : J.Chg} (o : Ok s) (ho : s.opn = true) (hb : c.len ≤ 4194304 - s.size) (hg : c.gone = true → c.val = []) : Ok (J.apply { s with changes := s.changes ++ [c], size := s.size + c.len } c) := by
  have he := o.encs ho
  have hc : (J.encs (s.changes ++ [c])).length = (J.encs s.changes).length + c.len := by rw [J.encs_app]; simp [J.encs, J.enc_len]
  have hnow := o.now
  have hch := o.chs
  have hsz := o.size
  have hl : 3 ≤ c.len := by simp only [J.Chg.len]; omega
  have _ := hg
  refine ⟨by show s.size + c.len ≤ _; omega, o.commits, o.gen, o.area, o.side, o.logged, o.writes, by show (s.changes ++ [c]).length ≤ s.size + c.len; simp; omega, fun _ => by show (J.encs (s.changes ++ [c])).length + 13 = s.size + c.len; omega, fun e => absurd (ho.symm.trans e) (by simp), o.a0, o.a1, o.h0, o.h1, ?_, o.was⟩
  show (J.encs (J.values (if c.gone then J.del s.now c.key else J.ins s.now c.key c.val))).length ≤ 8388608 + s.logged + (J.encs (s.changes ++ [c])).length
  cases hgo : c.gone with
  | true => have := J.encs_del s.now c.key; simp; omega
  | false =>
    have h1 := J.encs_ins s.now c.key c.val
    have h2 : c.len = 7 + c.key.length + c.val.length := by simp only [J.Chg.len, hgo]; simp; omega
    simp; omega
end Go.Proofs.YtjbepnkchoaipaaGreat
