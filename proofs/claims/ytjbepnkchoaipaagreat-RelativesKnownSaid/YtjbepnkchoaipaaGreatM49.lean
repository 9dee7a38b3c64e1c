import Derived.Test.YtjbepnkchoaipaaGreatBase
import Derived.Test.YtjbepnkchoaipaaGreatChecked
import Derived.ProofKit
import Derived.OpenShut
import Derived.Stop.Joined
import Derived.MakeChecks
import Derived.ChangeMaps
import Derived.LaidMore
import Derived.Below
import Derived.Test.YtjbepnkchoaipaaGreatM02
import Derived.Deep.Slices
import Derived.Test.YtjbepnkchoaipaaGreatM46
set_option linter.unusedVariables false
set_option linter.unusedSimpArgs false
/- From a row's own premises to what the walks of this seat ask: the frame of a law's proof. -/
namespace Go.Proofs.YtjbepnkchoaipaaGreat
open Go.ChangeShapes Go.WideShapes Go.ChangeAt Go.WideMaps Go.WideElems Go.RowKit
set_option maxRecDepth 100000
theorem own : ownKnob Tryz.prog.godebug = none := by kernel_rfl
theorem laidOutP : laidOutB Tryz.prog = true := by kernel_rfl
theorem handed_laid {H : Type} {enc : TypeId × Value → H} {a : Assume} {C : Checked} {os : Os} {f : FuncId} {fn : Func} {s : ChangeSpec} {conds : List PathCond} {apart fresh handsOn again : Bool} 
    (own : ownKnob C.prog.godebug = none) (started : os.Started) (noInit : C.prog.inits.idxOf? f = none) (hfn : C.prog.funcs[f]? = some fn)
    (witness : ∃ (w : World) (tape : Tape) (i : Input), w.os = os ∧ (w.forCall tape i).Shaped C.prog ∧ i.vars = [] ∧ Input.okWide C.prog (w.forCall tape i) .any w.heap.size f i ∧
      (s.pre enc C.prog fn conds apart (w.forCall tape i).memory i.args ∧ sizedMet enc C.prog fn (OpenSpec.ofChange s) apart (w.forCall tape i).memory i.args) ∧ a.holds C.prog (lone (Frame.enter C.prog f i.args .normal) [] (w.forCall tape i)))
    (contract : ∀ (W : World) (base : Nat) (args : Array Value) (ds gs : List (DataW H)) (before : List MemPlace),
      (∀ (j : Nat) t v, fn.params[j]? = some t → args[j]? = some v → Value.okWide C.prog W .any base t v) →
      DataW.Whole enc C.prog fn.params.toList s.vars apart W args.toList ds gs before →
      (DataW.weightsEach C.prog (fn.params.toList ++ s.plain.varTypes C.prog) (ds ++ gs)).all (· ≤ reachBytes) = true → W.ShapedOpen C.prog →
      Calls C.prog f args W fun e W' => ∃ v, e = .returned v ∧ s.post enc C.prog fn apart fresh handsOn again W args v W') :
    ReturnsInHanded a C os f .any (fun w args => s.pre enc C.prog fn conds apart w args ∧ sizedMet enc C.prog fn (OpenSpec.ofChange s) apart w args) (s.post enc C.prog fn apart fresh handsOn again) := by
  refine returnsInHanded_of_calls own started noInit witness ?_
  intro w tape i _ hsh _ hok hpre _
  obtain ⟨_, _, _, fn', hfn', _, _, _, _, hval⟩ := hok
  have e : fn' = fn := Option.some.inj (hfn'.symm.trans hfn)
  subst e
  obtain ⟨⟨ds, gs, before, hw, hc⟩, hz⟩ := hpre
  have hw' := DataW.Whole.of_heap (w' := w.forCall tape i) (by rfl) hw
  refine (contract (w.forCall tape i) w.heap.size i.args ds gs before hval hw' (hz.weights hw) hsh).mono fun e W' ⟨v, he, hp⟩ => ?_
  subst he
  exact ChangeSpec.post_blind hp

section
variable {H : Type} {enc : TypeId × Value → H} {P : Program} {W W' : World}
theorem trodAll_below (hl : laidOutB P = true) (hb : Below W.heap.size W W') : ∀ (ts : List TypeId) (vs : List Value) (ds : List (DataW H)) (ps : List MemPlace),
    (ts.all fun t => P.readableRec t && decide (t < P.types.size)) = true → DataW.TrodAll enc P W 0 (fun _ => true) true ts vs ds ps → (∀ x ∈ ps, x.block < W.heap.size) →
    DataW.TrodAll enc P W' 0 (fun b => decide (b < W.heap.size)) true ts vs ds ps
  | [], [], [], _, _, h, _ => h
  | [], [], _ :: _, _, _, h, _ => h.elim
  | [], _ :: _, _, _, _, h, _ => h.elim
  | _ :: _, [], _, _, _, h, _ => h.elim
  | _ :: _, _ :: _, [], _, _, h, _ => h.elim
  | t :: ts, v :: vs, d :: ds, ps, ht, ⟨p, q, h1, h2, e⟩, hlt => by
    simp only [List.all_cons, Bool.and_eq_true, decide_eq_true_eq] at ht
    subst e
    exact ⟨p, q, Below.trod hl ht.1.1 ht.1.2 h1 hb (fun x hx => hlt x (List.mem_append_left _ hx)), trodAll_below hl hb ts vs ds q ht.2 h2 (fun x hx => hlt x (List.mem_append_right _ hx)), rfl⟩

/-- A law that returned true, and left what was there as it was, meets its row's post. -/
theorem law_post {fn : Func} {s : ChangeSpec} {apart : Bool} {args : Array Value} {ds gs : List (DataW H)} {before : List MemPlace} (hl : laidOutB P = true) (hW : DataW.Whole enc P fn.params.toList s.vars apart W args.toList ds gs before)
    (hv : s.vars = []) (hfn : ∀ l : List (DataW H), l.length = fn.params.size → s.fn H l = { results := [.lit (.bool true)], args := l }) {tb : TypeId} (hr : fn.resultTypes = #[tb]) (htb : P.underlying tb = some .bool)
    (hread : (fn.params.toList.all fun t => P.readableRec t && decide (t < P.types.size)) = true) (hb : Below W.heap.size W W') :
    s.post enc P fn apart true false false W args (.bool true) W' := by
  have hW0 := hW
  obtain ⟨p, q, hA, hV, rfl, hfz, hnd⟩ := hW
  rw [hv] at hV
  obtain ⟨rfl, rfl⟩ := trodVars_none hV
  have hlen : ∀ (ts : List TypeId) (vs : List Value) (ds : List (DataW H)) (ps : List MemPlace), DataW.TrodAll enc P W 0 (fun _ => true) true ts vs ds ps → ds.length = ts.length := by
    intro ts
    induction ts with
    | nil => intro vs ds ps h; cases vs <;> cases ds <;> simp [DataW.TrodAll] at h ⊢
    | cons t ts ih =>
      intro vs ds ps h
      cases vs <;> cases ds <;> simp [DataW.TrodAll] at h ⊢
      obtain ⟨_, _, q, hq, _⟩ := h
      exact ih _ _ _ hq
  have hds : (ds ++ []).length = fn.params.size := by rw [List.append_nil]; simpa using hlen _ _ _ _ hA
  have e := hfn (ds ++ []) hds
  simp only [List.append_nil] at e hW0
  refine ⟨ds, [], p, [], p, [], by simpa using hW0, ?_, ?_, ?_, hb.frame _, fun h => by cases h⟩
  · rw [List.append_nil, e, hr]; exact trodAll_mk1 (shut_bool htb true)
  · rw [List.append_nil, e]; exact trodAll_below hl hb _ _ _ _ hread hA (fun x hx => by have := hW0.lt x (by simpa using hx); simpa using this)
  · rw [List.append_nil, e, hv]; exact rfl
end

/-- A law's row, out of its walk. -/
theorem lift_law {H : Type} {enc : TypeId × Value → H} {os : Os} (started : os.Started) {f : FuncId} {fn : Func} {s : ChangeSpec} {tb : TypeId}
    (noInit : Tryz.checked.prog.inits.idxOf? f = none) (hfunc : Tryz.checked.prog.funcs[f]? = some fn)
    (witness : ∃ (w : World) (tape : Tape) (i : Input), w.os = os ∧ (w.forCall tape i).Shaped Tryz.checked.prog ∧ i.vars = [] ∧ Input.okWide Tryz.checked.prog (w.forCall tape i) .any w.heap.size f i ∧
      (s.pre enc Tryz.checked.prog fn [] false (w.forCall tape i).memory i.args ∧ sizedMet enc Tryz.checked.prog fn (OpenSpec.ofChange s) false (w.forCall tape i).memory i.args) ∧ ({} : Assume).holds Tryz.checked.prog (lone (Frame.enter Tryz.checked.prog f i.args .normal) [] (w.forCall tape i)))
    (hv : s.vars = []) (hfn : ∀ l : List (DataW H), l.length = fn.params.size → s.fn H l = { results := [.lit (.bool true)], args := l }) (hr : fn.resultTypes = #[tb]) (htb : Tryz.prog.underlying tb = some .bool)
    (hread : (fn.params.toList.all fun t => Tryz.prog.readableRec t && decide (t < Tryz.prog.types.size)) = true)
    (walk : ∀ (W : World) (base : Nat) (args : Array Value) (ds : List (DataW H)) (ps : List MemPlace),
      (∀ (j : Nat) t v, fn.params[j]? = some t → args[j]? = some v → Value.okWide Tryz.prog W .any base t v) →
      DataW.TrodAll enc Tryz.prog W 0 (fun _ => true) true fn.params.toList args.toList ds ps → (∀ x ∈ ps, x.block < W.heap.size) →
      (DataW.weightsEach Tryz.prog fn.params.toList ds).all (· ≤ reachBytes) = true →
      Calls Tryz.prog f args W fun e W' => e = .returned (.bool true) ∧ Below W.heap.size W W') :
    ReturnsInHanded {} Tryz.checked os f .any (fun w args => s.pre enc Tryz.prog fn [] false w args ∧ sizedMet enc Tryz.prog fn (OpenSpec.ofChange s) false w args) (s.post enc Tryz.prog fn false true false false) := by
  refine handed_laid (C := Tryz.checked) own started noInit hfunc witness ?_
  intro W base args ds gs before hval hW hsz _
  have hW0 := hW
  obtain ⟨p, q, hA, hV, rfl, _, _⟩ := hW
  rw [hv] at hV
  obtain ⟨rfl, rfl⟩ := trodVars_none hV
  have hlt : ∀ x ∈ p, x.block < W.heap.size := fun x hx => by have := hW0.lt x (by simpa using hx); simpa using this
  have hz : (DataW.weightsEach Tryz.prog fn.params.toList ds).all (· ≤ reachBytes) = true := by
    have := hsz
    rw [List.append_nil] at this
    have e : s.plain.varTypes Tryz.checked.prog = [] := by show (s.vars.filterMap _) = []; rw [hv]; rfl
    rw [e, List.append_nil] at this
    exact this
  refine (walk W base args ds p hval hA hlt hz).mono fun e W' ⟨he, hb⟩ => ?_
  exact ⟨_, he, law_post laidOutP hW0 hv hfn hr htb hread hb⟩
end Go.Proofs.YtjbepnkchoaipaaGreat
/- Arguments that are opened: bytes. -/
namespace Go.Proofs.YtjbepnkchoaipaaGreat
open Go.ChangeShapes Go.WideShapes Go.ChangeAt Go.WideMaps Go.WideElems Go.RowKit Go.Deep
set_option maxRecDepth 100000
section
variable {H : Type} {enc : TypeId × Value → H} {W : World} {base : Nat} {held : Bool}
theorem cell_addr {a : Addr} {v : Value} (h : W.cell? a = some v) : ∃ b o, a = ⟨b, o, none⟩ ∧ b < W.heap.size := by
  obtain ⟨b, o, s⟩ := a
  have hb := cell_lt h
  refine ⟨b, o, ?_, hb⟩
  cases s with
  | none => rfl
  | some x =>
    exfalso
    unfold World.cell? at h
    split at h
    · simp at h
    · cases h
theorem trod_bytes {fuel : Nat} {cs : List Value} {x : DataW H × List MemPlace} (h : DataW.trod enc Tryz.prog W base (fun _ => true) held fuel 37 cs = some x) :
    ∃ A n c l, cs = [.slice A n c] ∧ l.length = n ∧ Sl W NoM (.slice A n c) l ∧ n ≤ maxLen := by
  rcases open_ints Tryz.underlying37 Tryz.underlying5 (by kernel_rfl) h with ⟨rfl, _⟩ | ⟨a, len, cap, zs, rfl, _, hl, hm, hzl, _, hc, hwf⟩
  · exact ⟨none, 0, 0, [], rfl, rfl, Sl.nil_, Nat.zero_le _⟩
  · have hzl : zs.length = cap := by simpa using hzl
    refine ⟨some a, len, cap, (zs.take len).map (fun z => UInt8.ofNat z.toNat), rfl, by rw [List.length_map, List.length_take]; omega, ?_, Nat.le_trans hl hm⟩
    have hlen : ((zs.take len).map (fun z => UInt8.ofNat z.toNat)).length = len := by rw [List.length_map, List.length_take]; omega
    rcases Nat.eq_zero_or_pos cap with h0 | h0
    · subst h0
      obtain rfl : len = 0 := by omega
      exact .inl ⟨some a, rfl, List.eq_nil_of_length_eq_zero hlen⟩
    · have hc0 := hc 0 (by omega)
      obtain ⟨b, o, e, hb⟩ := cell_addr hc0
      have e2 : a = ⟨b, o, none⟩ := by rw [← e]; simp [Addr.add]
      subst e2
      refine .inr ⟨b, o, cap, by rw [hlen], by omega, hb, rfl, fun _ => ⟨b, o, rfl, hb, fun h => h, fun j hj => ?_⟩⟩
      have hj2 : j < zs.length := by omega
      have := hc j hj2
      rw [add_mk] at this
      rw [this]
      have hz : zs.getD j 0 = zs[j] := by simp [List.getD, hj2]
      rw [hz]
      have hw := bounds_u8 (hwf zs[j] (List.getElem_mem hj2))
      simp only [List.getElem_map, List.getElem_take, u8]
      congr 2
      rw [UInt8.toNat_ofNat']
      omega
end
end Go.Proofs.YtjbepnkchoaipaaGreat
/- Arguments that are opened: scripts. -/
namespace Go.Proofs.YtjbepnkchoaipaaGreat
open Go.ChangeShapes Go.WideShapes Go.ChangeAt Go.WideMaps Go.WideElems Go.RowKit Go.Deep
set_option maxRecDepth 100000
section
variable {H : Type} {enc : TypeId × Value → H} {W : World} {base : Nat} {held : Bool}
theorem trod_actR {fuel : Nat} {cs : List Value} {x : DataW H × List MemPlace} (h : DataW.trod enc Tryz.prog W base (fun _ => true) held fuel 54 cs = some x) :
    ∃ (a : R.Ac) (v : Value), cs = [.int .u8 a.what, .int .u16 a.n, v] ∧ Sl W NoM v a.val ∧ a.what < 256 ∧ a.n < 65536 ∧ a.val.length ≤ maxLen := by
  obtain ⟨xs, n, rfl, hx, hlen, hxl, hall⟩ := DataW.trod_struct Tryz.underlying54 h
  have h3 : Tryz.prog.cellsOf 54 = 3 := by kernel_rfl
  rw [h3] at hlen
  obtain ⟨c0, c1, c2, rfl⟩ : ∃ c0 c1 c2, cs = [c0, c1, c2] := by
    match cs, hlen with
    | [c0, c1, c2], _ => exact ⟨c0, c1, c2, rfl⟩
  obtain ⟨y0, y1, y2, rfl⟩ : ∃ y0 y1 y2, xs = [y0, y1, y2] := by
    match xs, hxl with
    | [y0, y1, y2], _ => exact ⟨y0, y1, y2, rfl⟩
  have k0 : Tryz.prog.cellsOf 5 = 1 := by kernel_rfl
  have k1 : Tryz.prog.cellsOf 52 = 1 := by kernel_rfl
  have k2 : Tryz.prog.cellsOf 37 = 1 := by kernel_rfl
  have f0 : DataW.trod enc Tryz.prog W base (fun _ => true) held n 5 (([c0, c1, c2].drop 0).take (Tryz.prog.cellsOf 5)) = [y0, y1, y2][0]? := hall 0 _ rfl
  have f1 : DataW.trod enc Tryz.prog W base (fun _ => true) held n 52 (([c0, c1, c2].drop 1).take (Tryz.prog.cellsOf 52)) = [y0, y1, y2][1]? := hall 1 _ rfl
  have f2 : DataW.trod enc Tryz.prog W base (fun _ => true) held n 37 (([c0, c1, c2].drop 2).take (Tryz.prog.cellsOf 37)) = [y0, y1, y2][2]? := hall 2 _ rfl
  rw [k0] at f0
  rw [k1] at f1
  rw [k2] at f2
  obtain ⟨k, e0, rfl, wk⟩ := DataW.trod_int Tryz.underlying5 (show DataW.trod enc Tryz.prog W base (fun _ => true) held n 5 [c0] = some y0 from f0)
  obtain ⟨q, e1, rfl, wq⟩ := DataW.trod_int Tryz.underlying52 (show DataW.trod enc Tryz.prog W base (fun _ => true) held n 52 [c1] = some y1 from f1)
  obtain ⟨A, m, c, l, e2, hl, hs, hm⟩ := trod_bytes (show DataW.trod enc Tryz.prog W base (fun _ => true) held n 37 [c2] = some y2 from f2)
  simp only [List.cons.injEq, and_true] at e0 e1 e2
  subst e0 e1 e2
  have b0 := bounds_u8 wk
  have b1 := bounds_u16 wq
  exact ⟨⟨k.toNat, q.toNat, l⟩, .slice A m c, by rw [Int.toNat_of_nonneg (by omega), Int.toNat_of_nonneg (by omega)], hs, by show k.toNat < 256; omega, by show q.toNat < 65536; omega, by rw [hl]; exact hm⟩
theorem trod_acts {fuel : Nat} {cs : List Value} {x : DataW H × List MemPlace} (hf : DataW.trod enc Tryz.prog W base (fun _ => true) held fuel 44 cs = some x) :
    ∃ A c L, cs = [.slice A L.length c] ∧ ActsAt W NoM A L ∧ L.length ≤ maxLen ∧ ∀ a ∈ L, a.val.length ≤ maxLen := by
  have k3 : Tryz.prog.cellsOf 54 = 3 := by kernel_rfl
  rcases open_slice Tryz.underlying44 hf with ⟨e, _⟩ | ⟨a, len, cap, m, n, D, Pl, e, _, hl, hm, hmm, _, hx⟩
  · exact ⟨none, 0, [], e, fun h => absurd h (by simp), Nat.zero_le _, fun a ha => by cases ha⟩
  · simp at hmm
    subst hmm
    have hall : ∀ i, i < len → ∃ ac : R.Ac, (∃ u, W.cell? (a.add (i * 3)) = some (.int .u8 ac.what) ∧ W.cell? ((a.add (i * 3)).add 1) = some (.int .u16 ac.n) ∧ W.cell? ((a.add (i * 3)).add 2) = some u ∧ Sl W NoM u ac.val) ∧ ac.what < 256 ∧ ac.n < 65536 ∧ ac.val.length ≤ maxLen := by
      intro i hi
      obtain ⟨cs', h1, h2⟩ := hx i (by omega)
      rw [k3] at h1
      obtain ⟨ac, u, rfl, hs, w1, w2, w3⟩ := trod_actR h2
      obtain ⟨_, _, hc⟩ := World.cells?_some h1
      refine ⟨ac, ⟨u, ?_, hc 1 (by decide), hc 2 (by decide), hs⟩, w1, w2, w3⟩
      have := hc 0 (by decide)
      simpa [Addr.add] using this
    haveI : Inhabited R.Ac := ⟨⟨0, 0, []⟩⟩
    obtain ⟨f, hf2⟩ := choose_lt hall
    refine ⟨some a, m, (List.range len).map f, by simp [e], fun hn => ?_, by simp; omega, fun x hx => ?_⟩
    · have h0 : 0 < len := by simpa using hn
      obtain ⟨⟨u, hc0, _⟩, _⟩ := hf2 0 h0
      obtain ⟨b, o, e2, hb⟩ := cell_addr hc0
      have e3 : a = ⟨b, o, none⟩ := by rw [← e2]; simp [Addr.add]
      subst e3
      refine ⟨b, o, rfl, hb, fun h => h, fun i hi => ?_⟩
      have hi2 : i < len := by simpa using hi
      obtain ⟨⟨u, q0, q1, q2, q3⟩, w1, w2, _⟩ := hf2 i hi2
      rw [add_mk] at q0 q1 q2
      rw [add_mk] at q1 q2
      simp only [List.getElem_map, List.getElem_range]
      exact ⟨q0, q1, ⟨u, q2, q3⟩, w1, w2⟩
    · obtain ⟨i, hi, rfl⟩ := List.mem_map.1 hx
      exact (hf2 i (by simpa using hi)).2.2.2
/-- A script. -/
theorem open_S {r : Reach} {b0 : Nat} {v : Value} {d : DataW H} {ps : List MemPlace} (hval : Value.okWide Tryz.prog W r b0 46 v) (hd : DataW.Trod enc Tryz.prog W base (fun _ => true) held 46 v d ps) :
    ∃ (rel : Bool) (sz : Nat) (A : Option Addr) (c : Nat) (L : List R.Ac), v = .agg #[.bool rel, .int .u8 sz, .slice A L.length c] ∧ sz < 256 ∧ ActsAt W NoM A L ∧ L.length ≤ maxLen ∧ ∀ a ∈ L, a.val.length ≤ maxLen := by
  obtain ⟨cs, rfl, _⟩ := okWide_struct Tryz.underlying46 hval
  obtain ⟨fuel, hf⟩ := hd
  have hf : DataW.trod enc Tryz.prog W base (fun _ => true) held fuel 46 cs.toList = some (d, ps) := hf
  obtain ⟨cl, rfl⟩ : ∃ cl : List Value, cs = cl.toArray := ⟨cs.toList, by simp⟩
  obtain ⟨xs, n, _, hx, hlen, hxl, hall⟩ := DataW.trod_struct Tryz.underlying46 hf
  have h3 : Tryz.prog.cellsOf 46 = 3 := by kernel_rfl
  rw [h3] at hlen
  obtain ⟨c0, c1, c2, rfl⟩ : ∃ c0 c1 c2, cl = [c0, c1, c2] := by
    match cl, hlen with
    | [c0, c1, c2], _ => exact ⟨c0, c1, c2, rfl⟩
  obtain ⟨y0, y1, y2, rfl⟩ : ∃ y0 y1 y2, xs = [y0, y1, y2] := by
    match xs, hxl with
    | [y0, y1, y2], _ => exact ⟨y0, y1, y2, rfl⟩
  have k0 : Tryz.prog.cellsOf 4 = 1 := by kernel_rfl
  have k1 : Tryz.prog.cellsOf 5 = 1 := by kernel_rfl
  have k2 : Tryz.prog.cellsOf 44 = 1 := by kernel_rfl
  have f0 : DataW.trod enc Tryz.prog W base (fun _ => true) held n 4 (([c0, c1, c2].drop 0).take (Tryz.prog.cellsOf 4)) = [y0, y1, y2][0]? := hall 0 _ rfl
  have f1 : DataW.trod enc Tryz.prog W base (fun _ => true) held n 5 (([c0, c1, c2].drop 1).take (Tryz.prog.cellsOf 5)) = [y0, y1, y2][1]? := hall 1 _ rfl
  have f2 : DataW.trod enc Tryz.prog W base (fun _ => true) held n 44 (([c0, c1, c2].drop 2).take (Tryz.prog.cellsOf 44)) = [y0, y1, y2][2]? := hall 2 _ rfl
  rw [k0] at f0
  rw [k1] at f1
  rw [k2] at f2
  obtain ⟨b, e0, rfl⟩ := DataW.trod_bool Tryz.underlying4 (show DataW.trod enc Tryz.prog W base (fun _ => true) held n 4 [c0] = some y0 from f0)
  obtain ⟨k, e1, rfl, wk⟩ := DataW.trod_int Tryz.underlying5 (show DataW.trod enc Tryz.prog W base (fun _ => true) held n 5 [c1] = some y1 from f1)
  obtain ⟨A, c, L, e2, ha, hm, hv⟩ := trod_acts (show DataW.trod enc Tryz.prog W base (fun _ => true) held n 44 [c2] = some y2 from f2)
  simp only [List.cons.injEq, and_true] at e0 e1 e2
  subst e0 e1 e2
  have b0 := bounds_u8 wk
  exact ⟨b, k.toNat, A, c, L, by rw [Int.toNat_of_nonneg (by omega)], by omega, ha, hm, hv⟩
end
end Go.Proofs.YtjbepnkchoaipaaGreat
