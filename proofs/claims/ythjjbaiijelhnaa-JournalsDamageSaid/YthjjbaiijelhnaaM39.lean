import Derived.Test.YthjjbaiijelhnaaM34
import Derived.Test.YthjjbaiijelhnaaM36
import Derived.Deep.Slices
set_option linter.unusedVariables false
set_option linter.unusedSimpArgs false
/- Arguments that are opened: bytes, acts. -/
namespace Go.Proofs.Ythjjbaiijelhnaa
open Go.ChangeShapes Go.WideShapes Go.ChangeAt Go.WideMaps Go.WideElems Go.RowKit Go.Deep
set_option maxRecDepth 100000
section
variable {H : Type} {enc : TypeId × Value → H} {W : World} {base : Nat} {held : Bool}
theorem cell_addr {a : Addr} {v : Value} (h : W.cell? a = some v) : ∃ b o, a = ⟨b, o, none⟩ ∧ b < W.heap.size := by
  obtain ⟨b, o, s⟩ := a
  have hb := cell_lt h
  refine ⟨b, o, ?_, hb⟩
  cases s with
  | none => rfl
  | some x =>
    exfalso
    unfold World.cell? at h
    split at h
    · simp at h
    · cases h
theorem trod_bytes {fuel : Nat} {cs : List Value} {x : DataW H × List MemPlace} (h : DataW.trod enc Try.prog W base (fun _ => true) held fuel 22 cs = some x) :
    ∃ A n c l, cs = [.slice A n c] ∧ l.length = n ∧ Sl W NoM (.slice A n c) l ∧ n ≤ maxLen := by
  rcases open_ints Try.underlying22 Try.underlying5 (by kernel_rfl) h with ⟨rfl, _⟩ | ⟨a, len, cap, zs, rfl, _, hl, hm, hzl, _, hc, hwf⟩
  · exact ⟨none, 0, 0, [], rfl, rfl, Sl.nil_, Nat.zero_le _⟩
  · have hzl : zs.length = cap := by simpa using hzl
    refine ⟨some a, len, cap, (zs.take len).map (fun z => UInt8.ofNat z.toNat), rfl, by rw [List.length_map, List.length_take]; omega, ?_, Nat.le_trans hl hm⟩
    have hlen : ((zs.take len).map (fun z => UInt8.ofNat z.toNat)).length = len := by rw [List.length_map, List.length_take]; omega
    rcases Nat.eq_zero_or_pos cap with h0 | h0
    · subst h0
      obtain rfl : len = 0 := by omega
      exact .inl ⟨some a, rfl, List.eq_nil_of_length_eq_zero hlen⟩
    · have hc0 := hc 0 (by omega)
      obtain ⟨b, o, e, hb⟩ := cell_addr hc0
      have e2 : a = ⟨b, o, none⟩ := by rw [← e]; simp [Addr.add]
      subst e2
      refine .inr ⟨b, o, cap, by rw [hlen], by omega, hb, rfl, fun _ => ⟨b, o, rfl, hb, fun h => h, fun j hj => ?_⟩⟩
      have hj2 : j < zs.length := by omega
      have := hc j hj2
      rw [add_mk] at this
      rw [this]
      have hz : zs.getD j 0 = zs[j] := by simp [List.getD, hj2]
      rw [hz]
      have hw := bounds_u8 (hwf zs[j] (List.getElem_mem hj2))
      simp only [List.getElem_map, List.getElem_take, u8]
      congr 2
      rw [UInt8.toNat_ofNat']
      omega
theorem open_bytes {v : Value} {d : DataW H} {ps : List MemPlace} (hd : DataW.Trod enc Try.prog W base (fun _ => true) held 22 v d ps) (hv : v.cells = #[v]) :
    ∃ A n c l, v = .slice A n c ∧ l.length = n ∧ Sl W NoM (.slice A n c) l ∧ n ≤ maxLen := by
  obtain ⟨fuel, hf⟩ := hd
  rw [hv] at hf
  obtain ⟨A, n, c, l, e, h⟩ := trod_bytes hf
  simp at e
  exact ⟨A, n, c, l, e, h⟩
theorem trod_act {fuel : Nat} {cs : List Value} {x : DataW H × List MemPlace} (h : DataW.trod enc Try.prog W base (fun _ => true) held fuel 80 cs = some x) :
    ∃ (a : J.Ac) (v : Value), cs = [.int .u8 a.what, .int .u8 a.key, v] ∧ Sl W NoM v a.val ∧ a.what < 256 ∧ a.key < 256 ∧ a.val.length ≤ maxLen := by
  obtain ⟨xs, n, rfl, hx, hlen, hxl, hall⟩ := DataW.trod_struct Try.underlying80 h
  have h3 : Try.prog.cellsOf 80 = 3 := by kernel_rfl
  rw [h3] at hlen
  obtain ⟨c0, c1, c2, rfl⟩ : ∃ c0 c1 c2, cs = [c0, c1, c2] := by
    match cs, hlen with
    | [c0, c1, c2], _ => exact ⟨c0, c1, c2, rfl⟩
  obtain ⟨y0, y1, y2, rfl⟩ : ∃ y0 y1 y2, xs = [y0, y1, y2] := by
    match xs, hxl with
    | [y0, y1, y2], _ => exact ⟨y0, y1, y2, rfl⟩
  have k0 : Try.prog.cellsOf 5 = 1 := by kernel_rfl
  have k1 : Try.prog.cellsOf 22 = 1 := by kernel_rfl
  have f0 : DataW.trod enc Try.prog W base (fun _ => true) held n 5 (([c0, c1, c2].drop 0).take (Try.prog.cellsOf 5)) = [y0, y1, y2][0]? := hall 0 _ rfl
  have f1 : DataW.trod enc Try.prog W base (fun _ => true) held n 5 (([c0, c1, c2].drop 1).take (Try.prog.cellsOf 5)) = [y0, y1, y2][1]? := hall 1 _ rfl
  have f2 : DataW.trod enc Try.prog W base (fun _ => true) held n 22 (([c0, c1, c2].drop 2).take (Try.prog.cellsOf 22)) = [y0, y1, y2][2]? := hall 2 _ rfl
  rw [k0] at f0 f1
  rw [k1] at f2
  obtain ⟨k, e0, rfl, wk⟩ := DataW.trod_int Try.underlying5 (show DataW.trod enc Try.prog W base (fun _ => true) held n 5 [c0] = some y0 from f0)
  obtain ⟨q, e1, rfl, wq⟩ := DataW.trod_int Try.underlying5 (show DataW.trod enc Try.prog W base (fun _ => true) held n 5 [c1] = some y1 from f1)
  obtain ⟨A, m, c, l, e2, hl, hs, hm⟩ := trod_bytes (show DataW.trod enc Try.prog W base (fun _ => true) held n 22 [c2] = some y2 from f2)
  simp only [List.cons.injEq, and_true] at e0 e1 e2
  subst e0 e1 e2
  have b0 := bounds_u8 wk
  have b1 := bounds_u8 wq
  exact ⟨⟨k.toNat, q.toNat, l⟩, .slice A m c, by rw [Int.toNat_of_nonneg (by omega), Int.toNat_of_nonneg (by omega)], hs, by show k.toNat < 256; omega, by show q.toNat < 256; omega, by rw [hl]; exact hm⟩
instance : Inhabited J.Ac := ⟨⟨0, 0, []⟩⟩
theorem open_acts {v : Value} {d : DataW H} {ps : List MemPlace} (hd : DataW.Trod enc Try.prog W base (fun _ => true) held 64 v d ps) (hv : v.cells = #[v]) :
    ∃ A c L, v = .slice A L.length c ∧ ActsAt W NoM A L ∧ L.length ≤ maxLen ∧ ∀ a ∈ L, a.val.length ≤ maxLen := by
  obtain ⟨fuel, hf⟩ := hd
  rw [hv] at hf
  have k3 : Try.prog.cellsOf 80 = 3 := by kernel_rfl
  rcases open_slice Try.underlying64 hf with ⟨e, _⟩ | ⟨a, len, cap, m, n, D, Pl, e, _, hl, hm, hmm, _, hx⟩
  · simp at e
    exact ⟨none, 0, [], e, fun h => absurd h (by simp), Nat.zero_le _, fun a ha => by cases ha⟩
  · simp at e hmm
    subst hmm
    have hall : ∀ i, i < len → ∃ ac : J.Ac, (∃ u, W.cell? (a.add (i * 3)) = some (.int .u8 ac.what) ∧ W.cell? ((a.add (i * 3)).add 1) = some (.int .u8 ac.key) ∧ W.cell? ((a.add (i * 3)).add 2) = some u ∧ Sl W NoM u ac.val) ∧ ac.what < 256 ∧ ac.key < 256 ∧ ac.val.length ≤ maxLen := by
      intro i hi
      obtain ⟨cs', h1, h2⟩ := hx i (by omega)
      rw [k3] at h1
      obtain ⟨ac, u, rfl, hs, w1, w2, w3⟩ := trod_act h2
      obtain ⟨_, _, hc⟩ := World.cells?_some h1
      refine ⟨ac, ⟨u, ?_, hc 1 (by decide), hc 2 (by decide), hs⟩, w1, w2, w3⟩
      have := hc 0 (by decide)
      simpa [Addr.add] using this
    obtain ⟨f, hf2⟩ := choose_lt hall
    refine ⟨some a, m, (List.range len).map f, by simp [e], fun hn => ?_, by simp; omega, fun x hx => ?_⟩
    · have h0 : 0 < len := by simpa using hn
      obtain ⟨⟨u, hc0, _⟩, _⟩ := hf2 0 h0
      obtain ⟨b, o, e2, hb⟩ := cell_addr hc0
      have e3 : a = ⟨b, o, none⟩ := by rw [← e2]; simp [Addr.add]
      subst e3
      refine ⟨b, o, rfl, hb, fun h => h, fun i hi => ?_⟩
      have hi2 : i < len := by simpa using hi
      obtain ⟨⟨u, q0, q1, q2, q3⟩, w1, w2, _⟩ := hf2 i hi2
      rw [add_mk] at q0 q1 q2
      rw [add_mk] at q1 q2
      simp only [List.getElem_map, List.getElem_range]
      exact ⟨q0, q1, ⟨u, q2, q3⟩, w1, w2⟩
    · obtain ⟨i, hi, rfl⟩ := List.mem_map.1 hx
      exact (hf2 i (by simpa using hi)).2.2.2
end
end Go.Proofs.Ythjjbaiijelhnaa
