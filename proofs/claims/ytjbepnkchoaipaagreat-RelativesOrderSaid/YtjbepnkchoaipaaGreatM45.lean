import Derived.Test.YtjbepnkchoaipaaGreatBase
import Derived.Test.YtjbepnkchoaipaaGreatChecked
import Derived.ProofKit
import Derived.OpenShut
import Derived.Stop.Joined
import Derived.MakeChecks
import Derived.ChangeMaps
import Derived.LaidMore
import Derived.Below
import Derived.Test.YtjbepnkchoaipaaGreatM44
import Derived.Deep.Slices
set_option linter.unusedVariables false
set_option linter.unusedSimpArgs false
/- From a row's own premises to what the walks of this seat ask: the frame of a law's proof. -/
namespace Go.Proofs.YtjbepnkchoaipaaGreat
open Go.ChangeShapes Go.WideShapes Go.ChangeAt Go.WideMaps Go.WideElems Go.RowKit
set_option maxRecDepth 100000
theorem own : ownKnob Tryz.prog.godebug = none := by kernel_rfl
theorem laidOutP : laidOutB Tryz.prog = true := by kernel_rfl
theorem handed_laid {H : Type} {enc : TypeId × Value → H} {a : Assume} {C : Checked} {os : Os} {f : FuncId} {fn : Func} {s : ChangeSpec} {conds : List PathCond} {apart fresh handsOn again : Bool} 
    (own : ownKnob C.prog.godebug = none) (started : os.Started) (noInit : C.prog.inits.idxOf? f = none) (hfn : C.prog.funcs[f]? = some fn)
    (witness : ∃ (w : World) (tape : Tape) (i : Input), w.os = os ∧ (w.forCall tape i).Shaped C.prog ∧ i.vars = [] ∧ Input.okWide C.prog (w.forCall tape i) .any w.heap.size f i ∧
      (s.pre enc C.prog fn conds apart (w.forCall tape i).memory i.args ∧ sizedMet enc C.prog fn (OpenSpec.ofChange s) apart (w.forCall tape i).memory i.args) ∧ a.holds C.prog (lone (Frame.enter C.prog f i.args .normal) [] (w.forCall tape i)))
    (contract : ∀ (W : World) (base : Nat) (args : Array Value) (ds gs : List (DataW H)) (before : List MemPlace),
      (∀ (j : Nat) t v, fn.params[j]? = some t → args[j]? = some v → Value.okWide C.prog W .any base t v) →
      DataW.Whole enc C.prog fn.params.toList s.vars apart W args.toList ds gs before →
      (DataW.weightsEach C.prog (fn.params.toList ++ s.plain.varTypes C.prog) (ds ++ gs)).all (· ≤ reachBytes) = true → W.ShapedOpen C.prog →
      Calls C.prog f args W fun e W' => ∃ v, e = .returned v ∧ s.post enc C.prog fn apart fresh handsOn again W args v W') :
    ReturnsInHanded a C os f .any (fun w args => s.pre enc C.prog fn conds apart w args ∧ sizedMet enc C.prog fn (OpenSpec.ofChange s) apart w args) (s.post enc C.prog fn apart fresh handsOn again) := by
  refine returnsInHanded_of_calls own started noInit witness ?_
  intro w tape i _ hsh _ hok hpre _
  obtain ⟨_, _, _, fn', hfn', _, _, _, _, hval⟩ := hok
  have e : fn' = fn := Option.some.inj (hfn'.symm.trans hfn)
  subst e
  obtain ⟨⟨ds, gs, before, hw, hc⟩, hz⟩ := hpre
  have hw' := DataW.Whole.of_heap (w' := w.forCall tape i) (by rfl) hw
  refine (contract (w.forCall tape i) w.heap.size i.args ds gs before hval hw' (hz.weights hw) hsh).mono fun e W' ⟨v, he, hp⟩ => ?_
  subst he
  exact ChangeSpec.post_blind hp

section
variable {H : Type} {enc : TypeId × Value → H} {P : Program} {W W' : World}
theorem trodAll_below (hl : laidOutB P = true) (hb : Below W.heap.size W W') : ∀ (ts : List TypeId) (vs : List Value) (ds : List (DataW H)) (ps : List MemPlace),
    (ts.all fun t => P.readableRec t && decide (t < P.types.size)) = true → DataW.TrodAll enc P W 0 (fun _ => true) true ts vs ds ps → (∀ x ∈ ps, x.block < W.heap.size) →
    DataW.TrodAll enc P W' 0 (fun b => decide (b < W.heap.size)) true ts vs ds ps
  | [], [], [], _, _, h, _ => h
  | [], [], _ :: _, _, _, h, _ => h.elim
  | [], _ :: _, _, _, _, h, _ => h.elim
  | _ :: _, [], _, _, _, h, _ => h.elim
  | _ :: _, _ :: _, [], _, _, h, _ => h.elim
  | t :: ts, v :: vs, d :: ds, ps, ht, ⟨p, q, h1, h2, e⟩, hlt => by
    simp only [List.all_cons, Bool.and_eq_true, decide_eq_true_eq] at ht
    subst e
    exact ⟨p, q, Below.trod hl ht.1.1 ht.1.2 h1 hb (fun x hx => hlt x (List.mem_append_left _ hx)), trodAll_below hl hb ts vs ds q ht.2 h2 (fun x hx => hlt x (List.mem_append_right _ hx)), rfl⟩

/-- A law that returned true, and left what was there as it was, meets its row's post. -/
theorem law_post {fn : Func} {s : ChangeSpec} {apart : Bool} {args : Array Value} {ds gs : List (DataW H)} {before : List MemPlace} (hl : laidOutB P = true) (hW : DataW.Whole enc P fn.params.toList s.vars apart W args.toList ds gs before)
    (hv : s.vars = []) (hfn : ∀ l : List (DataW H), l.length = fn.params.size → s.fn H l = { results := [.lit (.bool true)], args := l }) {tb : TypeId} (hr : fn.resultTypes = #[tb]) (htb : P.underlying tb = some .bool)
    (hread : (fn.params.toList.all fun t => P.readableRec t && decide (t < P.types.size)) = true) (hb : Below W.heap.size W W') :
    s.post enc P fn apart true false false W args (.bool true) W' := by
  have hW0 := hW
  obtain ⟨p, q, hA, hV, rfl, hfz, hnd⟩ := hW
  rw [hv] at hV
  obtain ⟨rfl, rfl⟩ := trodVars_none hV
  have hlen : ∀ (ts : List TypeId) (vs : List Value) (ds : List (DataW H)) (ps : List MemPlace), DataW.TrodAll enc P W 0 (fun _ => true) true ts vs ds ps → ds.length = ts.length := by
    intro ts
    induction ts with
    | nil => intro vs ds ps h; cases vs <;> cases ds <;> simp [DataW.TrodAll] at h ⊢
    | cons t ts ih =>
      intro vs ds ps h
      cases vs <;> cases ds <;> simp [DataW.TrodAll] at h ⊢
      obtain ⟨_, _, q, hq, _⟩ := h
      exact ih _ _ _ hq
  have hds : (ds ++ []).length = fn.params.size := by rw [List.append_nil]; simpa using hlen _ _ _ _ hA
  have e := hfn (ds ++ []) hds
  simp only [List.append_nil] at e hW0
  refine ⟨ds, [], p, [], p, [], by simpa using hW0, ?_, ?_, ?_, hb.frame _, fun h => by cases h⟩
  · rw [List.append_nil, e, hr]; exact trodAll_mk1 (shut_bool htb true)
  · rw [List.append_nil, e]; exact trodAll_below hl hb _ _ _ _ hread hA (fun x hx => by have := hW0.lt x (by simpa using hx); simpa using this)
  · rw [List.append_nil, e, hv]; exact rfl
end

/-- A law's row, out of its walk. -/
theorem lift_law {H : Type} {enc : TypeId × Value → H} {os : Os} (started : os.Started) {f : FuncId} {fn : Func} {s : ChangeSpec} {tb : TypeId}
    (noInit : Tryz.checked.prog.inits.idxOf? f = none) (hfunc : Tryz.checked.prog.funcs[f]? = some fn)
    (witness : ∃ (w : World) (tape : Tape) (i : Input), w.os = os ∧ (w.forCall tape i).Shaped Tryz.checked.prog ∧ i.vars = [] ∧ Input.okWide Tryz.checked.prog (w.forCall tape i) .any w.heap.size f i ∧
      (s.pre enc Tryz.checked.prog fn [] false (w.forCall tape i).memory i.args ∧ sizedMet enc Tryz.checked.prog fn (OpenSpec.ofChange s) false (w.forCall tape i).memory i.args) ∧ ({} : Assume).holds Tryz.checked.prog (lone (Frame.enter Tryz.checked.prog f i.args .normal) [] (w.forCall tape i)))
    (hv : s.vars = []) (hfn : ∀ l : List (DataW H), l.length = fn.params.size → s.fn H l = { results := [.lit (.bool true)], args := l }) (hr : fn.resultTypes = #[tb]) (htb : Tryz.prog.underlying tb = some .bool)
    (hread : (fn.params.toList.all fun t => Tryz.prog.readableRec t && decide (t < Tryz.prog.types.size)) = true)
    (walk : ∀ (W : World) (base : Nat) (args : Array Value) (ds : List (DataW H)) (ps : List MemPlace),
      (∀ (j : Nat) t v, fn.params[j]? = some t → args[j]? = some v → Value.okWide Tryz.prog W .any base t v) →
      DataW.TrodAll enc Tryz.prog W 0 (fun _ => true) true fn.params.toList args.toList ds ps → (∀ x ∈ ps, x.block < W.heap.size) →
      (DataW.weightsEach Tryz.prog fn.params.toList ds).all (· ≤ reachBytes) = true →
      Calls Tryz.prog f args W fun e W' => e = .returned (.bool true) ∧ Below W.heap.size W W') :
    ReturnsInHanded {} Tryz.checked os f .any (fun w args => s.pre enc Tryz.prog fn [] false w args ∧ sizedMet enc Tryz.prog fn (OpenSpec.ofChange s) false w args) (s.post enc Tryz.prog fn false true false false) := by
  refine handed_laid (C := Tryz.checked) own started noInit hfunc witness ?_
  intro W base args ds gs before hval hW hsz _
  have hW0 := hW
  obtain ⟨p, q, hA, hV, rfl, _, _⟩ := hW
  rw [hv] at hV
  obtain ⟨rfl, rfl⟩ := trodVars_none hV
  have hlt : ∀ x ∈ p, x.block < W.heap.size := fun x hx => by have := hW0.lt x (by simpa using hx); simpa using this
  have hz : (DataW.weightsEach Tryz.prog fn.params.toList ds).all (· ≤ reachBytes) = true := by
    have := hsz
    rw [List.append_nil] at this
    have e : s.plain.varTypes Tryz.checked.prog = [] := by show (s.vars.filterMap _) = []; rw [hv]; rfl
    rw [e, List.append_nil] at this
    exact this
  refine (walk W base args ds p hval hA hlt hz).mono fun e W' ⟨he, hb⟩ => ?_
  exact ⟨_, he, law_post laidOutP hW0 hv hfn hr htb hread hb⟩
end Go.Proofs.YtjbepnkchoaipaaGreat
/- Arguments that are opened: bytes, rows of bytes. -/
namespace Go.Proofs.YtjbepnkchoaipaaGreat
open Go.ChangeShapes Go.WideShapes Go.ChangeAt Go.WideMaps Go.WideElems Go.RowKit Go.Deep
set_option maxRecDepth 100000
section
variable {H : Type} {enc : TypeId × Value → H} {W : World} {base : Nat} {held : Bool}
theorem cell_addr {a : Addr} {v : Value} (h : W.cell? a = some v) : ∃ b o, a = ⟨b, o, none⟩ ∧ b < W.heap.size := by
  obtain ⟨b, o, s⟩ := a
  have hb := cell_lt h
  refine ⟨b, o, ?_, hb⟩
  cases s with
  | none => rfl
  | some x =>
    exfalso
    unfold World.cell? at h
    split at h
    · simp at h
    · cases h
theorem trod_bytes {fuel : Nat} {cs : List Value} {x : DataW H × List MemPlace} (h : DataW.trod enc Tryz.prog W base (fun _ => true) held fuel 37 cs = some x) :
    ∃ A n c l, cs = [.slice A n c] ∧ l.length = n ∧ Sl W NoM (.slice A n c) l ∧ n ≤ maxLen := by
  rcases open_ints Tryz.underlying37 Tryz.underlying5 (by kernel_rfl) h with ⟨rfl, _⟩ | ⟨a, len, cap, zs, rfl, _, hl, hm, hzl, _, hc, hwf⟩
  · exact ⟨none, 0, 0, [], rfl, rfl, Sl.nil_, Nat.zero_le _⟩
  · have hzl : zs.length = cap := by simpa using hzl
    refine ⟨some a, len, cap, (zs.take len).map (fun z => UInt8.ofNat z.toNat), rfl, by rw [List.length_map, List.length_take]; omega, ?_, Nat.le_trans hl hm⟩
    have hlen : ((zs.take len).map (fun z => UInt8.ofNat z.toNat)).length = len := by rw [List.length_map, List.length_take]; omega
    rcases Nat.eq_zero_or_pos cap with h0 | h0
    · subst h0
      obtain rfl : len = 0 := by omega
      exact .inl ⟨some a, rfl, List.eq_nil_of_length_eq_zero hlen⟩
    · have hc0 := hc 0 (by omega)
      obtain ⟨b, o, e, hb⟩ := cell_addr hc0
      have e2 : a = ⟨b, o, none⟩ := by rw [← e]; simp [Addr.add]
      subst e2
      refine .inr ⟨b, o, cap, by rw [hlen], by omega, hb, rfl, fun _ => ⟨b, o, rfl, hb, fun h => h, fun j hj => ?_⟩⟩
      have hj2 : j < zs.length := by omega
      have := hc j hj2
      rw [add_mk] at this
      rw [this]
      have hz : zs.getD j 0 = zs[j] := by simp [List.getD, hj2]
      rw [hz]
      have hw := bounds_u8 (hwf zs[j] (List.getElem_mem hj2))
      simp only [List.getElem_map, List.getElem_take, u8]
      congr 2
      rw [UInt8.toNat_ofNat']
      omega
theorem open_bss {v : Value} {d : DataW H} {ps : List MemPlace} (hd : DataW.Trod enc Tryz.prog W base (fun _ => true) held 22 v d ps) (hv : v.cells = #[v]) :
    ∃ A c L, v = .slice A L.length c ∧ BsAt W A L := by
  obtain ⟨fuel, hf⟩ := hd
  rw [hv] at hf
  have k3 : Tryz.prog.cellsOf 37 = 1 := by kernel_rfl
  rcases open_slice Tryz.underlying22 hf with ⟨e, _⟩ | ⟨a, len, cap, m, n, D, Pl, e, _, hl, hm, hmm, _, hx⟩
  · simp at e
    exact ⟨none, 0, [], e, fun h => absurd h (by simp)⟩
  · simp at e hmm
    subst hmm
    have hall : ∀ i, i < len → ∃ b : J.B, ∃ u, W.cell? (a.add (i * 1)) = some u ∧ Sl W NoM u b := by
      intro i hi
      obtain ⟨cs', h1, h2⟩ := hx i (by omega)
      rw [k3] at h1
      obtain ⟨A2, n2, c2, l2, rfl, hl2, hs, _⟩ := trod_bytes h2
      obtain ⟨_, _, hc⟩ := World.cells?_some h1
      refine ⟨l2, .slice A2 n2 c2, ?_, hs⟩
      have := hc 0 (by decide)
      simpa [Addr.add] using this
    obtain ⟨f, hf2⟩ := choose_lt hall
    refine ⟨some a, m, (List.range len).map f, by simp [e], fun hn => ?_⟩
    have h0 : 0 < len := by simpa using hn
    obtain ⟨u, hc0, _⟩ := hf2 0 h0
    obtain ⟨b, o, e2, hb⟩ := cell_addr hc0
    have e3 : a = ⟨b, o, none⟩ := by rw [← e2]; simp [Addr.add]
    subst e3
    refine ⟨b, o, rfl, hb, fun i hi => ?_⟩
    have hi2 : i < len := by simpa using hi
    obtain ⟨u, q0, q1⟩ := hf2 i hi2
    rw [add_mk, Nat.mul_one] at q0
    simp only [List.getElem_map, List.getElem_range]
    exact ⟨u, q0, q1⟩
end
end Go.Proofs.YtjbepnkchoaipaaGreat
