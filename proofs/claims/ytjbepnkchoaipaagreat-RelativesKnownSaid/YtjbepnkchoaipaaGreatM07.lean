import Derived.Test.YtjbepnkchoaipaaGreatM00
import Derived.Test.YtjbepnkchoaipaaGreatM02
import Derived.Maps.OwnSet
import Derived.Maps.OwnOps
import Derived.Maps.Views
import Derived.Maps.RangeWalk
import Derived.Sort.KeysCollected
set_option linter.unusedVariables false
set_option linter.unusedSimpArgs false
/- A map from strings to slices of bytes: what it holds, as a list of pairs that ascend by key. -/
namespace Go.Proofs.YtjbepnkchoaipaaGreat
open Go.RowKit Go.Lib Go.Maps
set_option maxRecDepth 100000
/-- How a slice in a map reads: by its address, its length and its capacity. -/
def vElem : Value → Option (DataW Unit × List MemPlace)
  | .slice none 0 0 => some (.nil, [])
  | .slice (some ⟨b, o, none⟩) n c => some (.agg [.lit (.int .i64 b), .lit (.int .i64 o), .lit (.int .i64 n), .lit (.int .i64 c)], [])
  | _ => none
theorem vElem_inj {v v' : Value} {d : DataW Unit} {p p' : List MemPlace} (h : vElem v = some (d, p)) (h' : vElem v' = some (d, p')) : v = v' := by
  unfold vElem at h h'
  split at h
  · split at h'
    · rfl
    · injection h with h; injection h' with h'; injection h with h1 _; injection h' with h2 _; rw [← h1] at h2; cases h2
    · cases h'
  · split at h'
    · injection h with h; injection h' with h'; injection h with h1 _; injection h' with h2 _; rw [← h1] at h2; cases h2
    · injection h with h; injection h' with h'; injection h with h1 _; injection h' with h2 _
      rw [← h1] at h2
      simp only [DataW.agg.injEq, List.cons.injEq, DataW.lit.injEq, Lit.int.injEq, and_true, true_and] at h2
      obtain ⟨e1, e2, e3, e4⟩ := h2
      have e1 := Int.ofNat_inj.1 e1
      have e2 := Int.ofNat_inj.1 e2
      have e3 := Int.ofNat_inj.1 e3
      have e4 := Int.ofNat_inj.1 e4
      subst e1 e2 e3 e4; rfl
    · cases h'
  · cases h
theorem vElem_slc {w : World} {M : Nat → Prop} {v : Value} {l : List UInt8} (h : Slc w M v l) : ∃ d, vElem v = some (d, []) := by
  rcases h with ⟨rfl, _⟩ | ⟨b, o, rfl, _⟩
  · exact ⟨_, rfl⟩
  · exact ⟨_, rfl⟩
theorem lawS : Keyed Tryz.prog 9 := string_keyed Tryz.underlying9
theorem zeroB (w : World) : (zeroValue 37).run Tryz.prog w = .ok (.slice none 0 0) w := by kernel_rfl
/-- Block b is a map that holds the pairs of m. -/
def MapR (w : World) (M : Nat → Prop) (b : Nat) (m : List (J.B × J.B)) : Prop :=
  ∃ D : DataW Unit, w.ownsMap Tryz.prog 9 vElem b (Maps.size D) D ∧ J.Asc m ∧ (∀ k, Maps.has D (.string k) = (J.look m k).isSome) ∧
    ∀ k l, J.look m k = some l → ∃ v d, vElem v = some (d, []) ∧ (∀ z, D.atKey (.string k) z = d) ∧ Slc w M v l
theorem ownsMap_size {w : World} {b n : Nat} {D : DataW Unit} (h : w.ownsMap Tryz.prog 9 vElem b n D) : w.ownsMap Tryz.prog 9 vElem b (Maps.size D) D := by
  obtain ⟨es, clock, h1, h2, h3, h4⟩ := h
  refine ⟨es, clock, h1, h2, ?_, h4⟩
  rw [h4, Maps.size_eq, length_read]
  exact Nat.le_refl _
section
variable {w w' : World} {M M' : Nat → Prop} {b : Nat} {m : List (J.B × J.B)}
theorem MapR.lt (h : MapR w M b m) : b < w.heap.size := h.elim fun _ h => h.1.lt
theorem MapR.made (w : World) (M : Nat → Prop) : MapR (w.alloc (.map #[] 0)) M w.heap.size [] :=
  ⟨.map [], World.ownsMap_made _ _ _ _, J.asc_nil, fun k => rfl, fun k l h => by simp [J.look] at h⟩
theorem MapR.step (h : MapR w M b m) (hs : Step M M' w w') (hb : w'.heap[b]? = w.heap[b]?) : MapR w' M' b m := by
  obtain ⟨D, h1, h2, h3, h4⟩ := h
  refine ⟨D, ?_, h2, h3, fun k l hk => ?_⟩
  · obtain ⟨es, clock, g1, g2⟩ := h1
    exact ⟨es, clock, hb.trans g1, g2⟩
  · obtain ⟨v, d, g1, g2, g3⟩ := h4 k l hk
    exact ⟨v, d, g1, g2, g3.step hs⟩
theorem MapR.below (h : MapR w M b m) (hb : Below w.heap.size w w') : MapR w' M b m := h.step (Step.of_below hb) (hb.block b h.lt)
/-- The keys. -/
theorem MapR.perm (h : MapR w M b m) (D : DataW Unit) (n : Nat) (h1 : w.ownsMap Tryz.prog 9 vElem b n D) (h3 : ∀ k, Maps.has D (.string k) = (J.look m k).isSome) : (m.map (·.1)).Perm (strKeys D) := by
  have hasc : J.Asc m := h.elim fun _ h => h.2.1
  obtain ⟨es, hD, hpw, _⟩ := h1.entries lawS
  obtain ⟨es', hD', hko⟩ := h1.keysOf
  obtain rfl : es = es' := by rw [hD] at hD'; simpa using hD'
  subst hD
  refine perm_strKeys hpw (fun p hp => by obtain ⟨v, hv⟩ := hko p hp; obtain ⟨x, _, hx, _⟩ := Maps.keyOf_str Tryz.underlying9 hv; exact ⟨x, hx⟩) ?_ (fun x => ?_)
  · rw [List.Nodup, List.pairwise_map]
    exact List.Pairwise.imp (fun {a c} hac e => by rw [e] at hac; exact J.lt_irrefl _ hac) hasc
  · rw [h3 x, List.mem_map]
    constructor
    · rintro ⟨p, hp, rfl⟩
      rw [J.look_of_mem m p.1 p.2 hasc hp]; rfl
    · intro hx
      cases hq : J.look m x with
      | none => rw [hq] at hx; cases hx
      | some l => exact ⟨(x, l), J.look_some_mem _ _ _ hq, rfl⟩
theorem MapR.size_eq (h : MapR w M b m) {D : DataW Unit} {n : Nat} (h1 : w.ownsMap Tryz.prog 9 vElem b n D) (h3 : ∀ k, Maps.has D (.string k) = (J.look m k).isSome) : Maps.size D = m.length := by
  have hp := (h.perm D n h1 h3).length_eq
  rw [List.length_map] at hp
  obtain ⟨es, hD, _⟩ := h1.entries lawS
  rw [hp, hD]; simp [strKeys, Maps.size_eq]
/-- A pair is stored. -/
theorem MapR.put (h : MapR w M b m) {D : DataW Unit} {n : Nat} (h1 : w.ownsMap Tryz.prog 9 vElem b n D) (h3 : ∀ k, Maps.has D (.string k) = (J.look m k).isSome)
    (h4 : ∀ k l, J.look m k = some l → ∃ v d, vElem v = some (d, []) ∧ (∀ z, D.atKey (.string k) z = d) ∧ Slc w M v l) {k l : J.B} {v : Value} {d : DataW Unit} (hv : vElem v = some (d, [])) (hs : Slc w M v l)
    (h1' : w'.ownsMap Tryz.prog 9 vElem b (n + 1) (D.put (.string k) d)) (hst : Step M M' w w') : MapR w' M' b (J.ins m k l) := by
  have hM := h1.isMap
  have hasc : J.Asc m := h.elim fun _ h => h.2.1
  have hk : WideAt.IsKeyLit (.string k) := trivial
  refine ⟨_, ownsMap_size h1', J.asc_ins hasc k l, fun k' => ?_, fun k' l' hl => ?_⟩
  · rw [J.look_ins]
    by_cases e : k' = k
    · subst e; rw [has_put_same hM hk, if_pos rfl]; rfl
    · rw [has_put_other (by intro h; exact e (by injection h)), if_neg e, h3]
  · rw [J.look_ins] at hl
    by_cases e : k' = k
    · subst e
      rw [if_pos rfl] at hl
      injection hl with hl
      subst hl
      exact ⟨v, d, hv, fun z => atKey_put_same hM hk d z, hs.step hst⟩
    · rw [if_neg e] at hl
      obtain ⟨v2, d2, g1, g2, g3⟩ := h4 k' l' hl
      exact ⟨v2, d2, g1, fun z => by rw [atKey_put_other (by intro h; exact e (by injection h))]; exact g2 z, g3.step hst⟩
theorem MapR.del (h : MapR w M b m) {D : DataW Unit} {n n' : Nat} (_h1 : w.ownsMap Tryz.prog 9 vElem b n D) (h3 : ∀ k, Maps.has D (.string k) = (J.look m k).isSome)
    (h4 : ∀ k l, J.look m k = some l → ∃ v d, vElem v = some (d, []) ∧ (∀ z, D.atKey (.string k) z = d) ∧ Slc w M v l) {k : J.B}
    (h1' : w'.ownsMap Tryz.prog 9 vElem b n' (D.del (.string k))) (hst : Step M M' w w') : MapR w' M' b (J.del m k) := by
  have hasc : J.Asc m := h.elim fun _ h => h.2.1
  refine ⟨_, ownsMap_size h1', J.asc_del hasc k, fun k' => ?_, fun k' l' hl => ?_⟩
  · rw [J.look_filter]
    by_cases e : k' = k
    · subst e; rw [has_del_same, if_pos rfl]; rfl
    · rw [has_del_other (by intro h; exact e (by injection h)), if_neg e, h3]
  · rw [J.look_filter] at hl
    by_cases e : k' = k
    · subst e; rw [if_pos rfl] at hl; cases hl
    · rw [if_neg e] at hl
      obtain ⟨v2, d2, g1, g2, g3⟩ := h4 k' l' hl
      exact ⟨v2, d2, g1, fun z => by rw [atKey_del_other (by intro h; exact e (by injection h))]; exact g2 z, g3.step hst⟩
end
end Go.Proofs.YtjbepnkchoaipaaGreat
