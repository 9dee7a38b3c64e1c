import Derived.Test.YtjbepnkchoaipaaGreatM19
set_option linter.unusedVariables false
set_option linter.unusedSimpArgs false
/- Contract: write, of every kind. -/
namespace Go.Proofs.YtjbepnkchoaipaaGreat
open Go.RowKit Go.Lib Go.Maps Go.WideMaps
set_option maxRecDepth 100000
theorem step_uncapQ {w w' : World} {M M' : Nat → Prop} (h : Step (fun k => M k ∧ k < w.heap.size) M' w w') : Step M M' w w' := h.uncap
theorem write_any (p : Nat) (M : Nat → Prop) (s : J.St) (kd i : Nat) (v : Value) (bs : List UInt8) (w : World) (h : StoreQ w p M s) (hk : kd ≤ 2) (hi : i ≤ 1) (hv : Sl w M v bs) (hb : bs.length ≤ 40000000) (hlog : s.logged + bs.length ≤ 100000000) (hwn : s.writes.length + 1 ≤ 100000000) (h0 : kd ≠ 1 → 0 < bs.length)
    (ha0 : s.disk.a0.length ≤ 16000000) (ha1 : s.disk.a1.length ≤ 16000000) (hh0 : s.disk.h0.length ≤ 16000000) (hh1 : s.disk.h1.length ≤ 16000000) :
    Calls Tryz.prog 94 #[.pointer (some ⟨p, 0, none⟩), .agg #[.int .u8 kd, .int .i64 i, v]] w fun e w' => (∃ r, e = .returned r) ∧ ∃ M', StoreQ w' p M' (J.write s ⟨kd, i, bs⟩) ∧ Step M M' w w' := by
  obtain ⟨A, c, rfl⟩ := hv.slice_
  have hq := h.cap
  have hs : Sl w (fun k => M k ∧ k < w.heap.size) (.slice A bs.length c) bs := hv.weak (fun k h => h.1)
  have hM : ∀ k, (fun k => M k ∧ k < w.heap.size) k → k < w.heap.size := fun k h => h.2
  have fin : ∀ {e : Ending} {w' : World} {L : J.St}, ((∃ r, e = .returned r) ∧ ∃ M', StoreQ w' p M' L ∧ Step (fun k => M k ∧ k < w.heap.size) M' w w') → (∃ r, e = .returned r) ∧ ∃ M', StoreQ w' p M' L ∧ Step M M' w w' :=
    fun ⟨h1, M', h2, h3⟩ => ⟨h1, M', h2, h3.uncap⟩
  rcases (show kd = 0 ∨ kd = 1 ∨ kd = 2 by omega) with rfl | rfl | rfl <;> rcases (show i = 0 ∨ i = 1 by omega) with rfl | rfl
  · exact (write_grow0 p _ s A bs.length c bs w hq hM hs hlog hwn rfl (h0 (by decide)) (by omega)).mono fun e w' h => fin h
  · exact (write_grow1 p _ s A bs.length c bs w hq hM hs hlog hwn rfl (h0 (by decide)) (by omega)).mono fun e w' h => fin h
  · exact (write_empty0 p _ s A bs.length c bs w hq hM hs hlog hwn rfl).mono fun e w' h => fin h
  · exact (write_empty1 p _ s A bs.length c bs w hq hM hs hlog hwn rfl).mono fun e w' h => fin h
  · exact (write_head0 p _ s A bs.length c bs w hq hM hs hlog hwn rfl (h0 (by decide)) (by omega) hb).mono fun e w' h => fin h
  · exact (write_head1 p _ s A bs.length c bs w hq hM hs hlog hwn rfl (h0 (by decide)) (by omega) hb).mono fun e w' h => fin h
end Go.Proofs.YtjbepnkchoaipaaGreat
/- Contract: Image.done, of every kind. -/
namespace Go.Proofs.YtjbepnkchoaipaaGreat
open Go.RowKit Go.Lib
set_option maxRecDepth 100000
/-- A value that is an image that is only read. -/
def ImgS (w : World) (v : Value) (m : J.Img) : Prop := ∃ h0 h1 a0 a1, v = imgV h0 h1 a0 a1 ∧ Sl w NoM h0 m.h0 ∧ Sl w NoM h1 m.h1 ∧ Sl w NoM a0 m.a0 ∧ Sl w NoM a1 m.a1
theorem ImgS.below {w w' : World} {v : Value} {m : J.Img} (h : ImgS w v m) (hb : Below w.heap.size w w') : ImgS w' v m := by
  obtain ⟨h0, h1, a0, a1, rfl, q0, q1, q2, q3⟩ := h
  exact ⟨h0, h1, a0, a1, rfl, q0.step (Step.of_below hb), q1.step (Step.of_below hb), q2.step (Step.of_below hb), q3.step (Step.of_below hb)⟩
theorem own_slN {w : World} {base n : Nat} {v : Value} {l : List UInt8} (h : w.ownsRow base 5 1 v n (u8s l)) : Sl w NoM v l := own_sl h (fun _ h => h.elim)
theorem done_any (v x : Value) (m : J.Img) (wr : J.Wr) (many : Nat) (w : World) (h : ImgS w v m) (hx : Sl w NoM x wr.bs) (hk : wr.kind ≤ 2) (hi : wr.idx ≤ 1) (hm : many ≤ wr.bs.length) (h0 : wr.kind ≠ 1 → 0 < wr.bs.length) (hb : wr.bs.length ≤ 40000000)
    (z0 : m.h0.length ≤ 40000000) (z1 : m.h1.length ≤ 40000000) (z2 : m.a0.length ≤ 40000000) (z3 : m.a1.length ≤ 40000000) :
    Calls Tryz.prog 55 #[v, .agg #[.int .u8 (wr.kind : Nat), .int .i64 (wr.idx : Nat), x], .int .i64 many] w fun e w' => ∃ v', e = .returned v' ∧ ImgS w' v' (J.done m wr many) ∧ Below w.heap.size w w' := by
  obtain ⟨vh0, vh1, va0, va1, rfl, q0, q1, q2, q3⟩ := h
  obtain ⟨A0, c0, rfl, hc0, y0⟩ := q0.by
  obtain ⟨A1, c1, rfl, hc1, y1⟩ := q1.by
  obtain ⟨A2, c2, rfl, hc2, y2⟩ := q2.by
  obtain ⟨A3, c3, rfl, hc3, y3⟩ := q3.by
  obtain ⟨A4, c4, rfl, hc4, y4⟩ := hx.by
  obtain ⟨kd, ix, bs⟩ := wr
  simp only at hk hi hm h0 hb y4 hc4
  have hp : kd ≠ 1 → ∃ b o, A4 = some ⟨b, o, none⟩ := fun h => by
    obtain ⟨b, o, e, _⟩ := y4.2 (h0 h)
    exact ⟨b, o, e⟩
  rcases (show kd = 0 ∨ kd = 1 ∨ kd = 2 by omega) with rfl | rfl | rfl <;> rcases (show ix = 0 ∨ ix = 1 by omega) with rfl | rfl
  · obtain ⟨b, o, rfl⟩ := hp (by decide)
    refine (done_grow0 A0 A1 A2 A3 _ _ _ _ _ c0 c1 c2 c3 c4 b o many w NoM NoM m.a0 bs y2 y4 hm hc4 z2 hb).mono ?_
    rintro e w' ⟨A', n', c', rfl, hown, hbl⟩
    exact ⟨_, rfl, ⟨_, _, _, _, rfl, q0.step (Step.of_below hbl), q1.step (Step.of_below hbl), own_slN hown, q3.step (Step.of_below hbl)⟩, hbl⟩
  · obtain ⟨b, o, rfl⟩ := hp (by decide)
    refine (done_grow1 A0 A1 A2 A3 _ _ _ _ _ c0 c1 c2 c3 c4 b o many w NoM NoM m.a1 bs y3 y4 hm hc4 z3 hb).mono ?_
    rintro e w' ⟨A', n', c', rfl, hown, hbl⟩
    exact ⟨_, rfl, ⟨_, _, _, _, rfl, q0.step (Step.of_below hbl), q1.step (Step.of_below hbl), q2.step (Step.of_below hbl), own_slN hown⟩, hbl⟩
  · refine (done_empty0 A0 A1 A2 A3 A4 _ _ _ _ _ c0 c1 c2 c3 c4 many w).mono ?_
    rintro e w' ⟨rfl, hbl⟩
    exact ⟨_, rfl, ⟨_, _, _, _, rfl, q0.step (Step.of_below hbl), q1.step (Step.of_below hbl), Sl.nil_, q3.step (Step.of_below hbl)⟩, hbl⟩
  · refine (done_empty1 A0 A1 A2 A3 A4 _ _ _ _ _ c0 c1 c2 c3 c4 many w).mono ?_
    rintro e w' ⟨rfl, hbl⟩
    exact ⟨_, rfl, ⟨_, _, _, _, rfl, q0.step (Step.of_below hbl), q1.step (Step.of_below hbl), q2.step (Step.of_below hbl), Sl.nil_⟩, hbl⟩
  · obtain ⟨b, o, rfl⟩ := hp (by decide)
    refine (done_head0 A0 A1 A2 A3 _ _ _ _ _ c0 c1 c2 c3 c4 b o many w NoM NoM m.h0 bs y0 hc0 y4 hm hc4 z0 hb).mono ?_
    rintro e w' ⟨A', n', c', rfl, hown, hbl⟩
    exact ⟨_, rfl, ⟨_, _, _, _, rfl, own_slN hown, q1.step (Step.of_below hbl), q2.step (Step.of_below hbl), q3.step (Step.of_below hbl)⟩, hbl⟩
  · obtain ⟨b, o, rfl⟩ := hp (by decide)
    refine (done_head1 A0 A1 A2 A3 _ _ _ _ _ c0 c1 c2 c3 c4 b o many w NoM NoM m.h1 bs y1 hc1 y4 hm hc4 z1 hb).mono ?_
    rintro e w' ⟨A', n', c', rfl, hown, hbl⟩
    exact ⟨_, rfl, ⟨_, _, _, _, rfl, q0.step (Step.of_below hbl), own_slN hown, q2.step (Step.of_below hbl), q3.step (Step.of_below hbl)⟩, hbl⟩
end Go.Proofs.YtjbepnkchoaipaaGreat
