import Derived.Test.YtojmckbpafkagaaGreatDoorEE
import Derived.Lib.AppendZeros
import Derived.Lib.UnsafeStr
import Derived.OrdersHeld
import Derived.StillTail
import Derived.Deep.RegionHeld
import Derived.WalkKit
namespace Go.Ev
open Go Go.RowKit
set_option linter.unusedVariables false
set_option linter.unusedSimpArgs false

def intT : Option TypeDesc → Bool | some .string => false | some (.slice _) => false | _ => true
theorem intT_spec {o : Option TypeDesc} (h : intT o = false) : ∃ d, o = some d ∧ (d = .string ∨ ∃ e, d = .slice e) := by
  cases o with
  | none => simp [intT] at h
  | some d => refine ⟨d, rfl, ?_⟩; cases d <;> first | exact .inl rfl | exact .inr ⟨_, rfl⟩ | (simp [intT] at h)
section
variable {P : Program} (w : World)
theorem run_append_fit {t u ty e : TypeId} {i : TypeInfo} {d : TypeDesc} (hu : P.underlying t = some (.slice e)) (hi : P.info? e = some i) (hd : P.underlying u = some d) (hk : d = .string ∨ ∃ e, d = .slice e)
    (base : Option Addr) (sl k n : Nat) (x : Value) (l : List Value) (hn : (Builtin.lenOf x).run P w = .ok n w) (hf : (Builtin.firstCells i.size n x).run P w = .ok ⟨l⟩ w) (hle : sl + n ≤ k)
    {w' : World} (hs : ∀ a, base = some a → (storeCells (a.add (sl * i.size)) l).run P w = .ok () w') (h0 : base = none → w' = w) :
    (Builtin.append_ #[t, u] ty #[.slice base sl k, x]).run P w = .ok (.slice base (sl + n) k) w' := by
  cases base with
  | none =>
    obtain rfl := h0 rfl
    rcases hk with rfl | ⟨e2, rfl⟩
    · simp [Builtin.append_, run_underlying hu, run_underlying hd, run_sizeOf' w' hi, hn, hle, hf]
    · simp [Builtin.append_, run_underlying hu, run_underlying hd, run_sizeOf' w' hi, hn, hle, hf]
  | some a =>
    have hst := hs a rfl
    rcases hk with rfl | ⟨e2, rfl⟩
    · simp [Builtin.append_, run_underlying hu, run_underlying hd, run_sizeOf' w hi, hn, hle, hf, hst]
    · simp [Builtin.append_, run_underlying hu, run_underlying hd, run_sizeOf' w hi, hn, hle, hf, hst]
theorem run_append_new {t u ty e : TypeId} {i : TypeInfo} {z : Value} {d : TypeDesc} (hu : P.underlying t = some (.slice e)) (hi : P.info? e = some i) (hz : i.zero = some z) (hd : P.underlying u = some d) (hk : d = .string ∨ ∃ e, d = .slice e)
    (base : Option Addr) (sl k n : Nat) (x : Value) (l ol : List Value) (hn : (Builtin.lenOf x).run P w = .ok n w) (hf : (Builtin.firstCells i.size n x).run P w.drew = .ok ⟨l⟩ w.drew)
    (ho : (Builtin.firstCells i.size sl (.slice base sl k)).run P w.drew = .ok ⟨ol⟩ w.drew) (hle : k < sl + n) (h63 : sl + n ≤ 100000) (hb : i.bytes ≤ 100000) :
    (Builtin.append_ #[t, u] ty #[.slice base sl k, x]).run P w = .ok (.slice (some ⟨w.heap.size, 0, none⟩) (sl + n) (grownCap w (sl + n) k e))
      (w.drew.alloc (.cells ⟨ol ++ l ++ (Builtin.zeroCells z.cells (grownCap w (sl + n) k e - (sl + n))).toList⟩ e)) := by
  have hn1 : ¬ (sl + n ≤ k) := by omega
  have h63' : ¬ (9223372036854775807 < ((sl : Int) + (n : Int))) := by omega
  have hbytes : (sl + n) * i.bytes ≤ 140737488355328 := Nat.le_trans (Nat.mul_le_mul h63 hb) (by decide)
  have h48' : ¬ (281474976710656 < Builtin.nextslicecap (sl + n) k * i.bytes) := by have := growslice_fits hle hbytes; omega
  rcases hk with rfl | ⟨e2, rfl⟩
  · simp [Builtin.append_, run_underlying hu, run_underlying hd, sizeOf, typeInfo, zeroValue, hi, hz, hn, hn1, h63', h48', Question.forced, hf, ho, newRow, grownCap]
    congr 2
    apply Array.ext'; simp
  · simp [Builtin.append_, run_underlying hu, run_underlying hd, sizeOf, typeInfo, zeroValue, hi, hz, hn, hn1, h63', h48', Question.forced, hf, ho, newRow, grownCap]
    congr 2
    apply Array.ext'; simp
end
noncomputable def wAppend (P : Program) (H : Heap) (t u : TypeId) (s x : Value) : Option (Value × Heap) :=
  match elLay P t with
  | some (e, sz, by_, z) => match s with
    | .slice a sl k => match lenX x with
      | some n => match newsN H sz x n with
        | some l => match and (and (and (Nat.beq (lenV z) sz) (Nat.blt 0 sz)) (and (not (intT (P.underlying u))) (oneL l))) (and (Nat.ble (Nat.add sl n) 100000) (Nat.ble by_ 100000)) with
          | true => match n with
            | 0 => match Nat.ble sl k with | true => some (s, H) | false => none
            | _ + 1 => match a with
              | none => match and (Nat.beq sl 0) (Nat.beq k 0) with
                | true => some (.slice (some ⟨H.next, 0, none⟩) n unk, H.push (.row H.clock e sz (Nat.mul n sz) (putL .nil l 0)))
                | false => none
              | some ⟨i, o, none⟩ => match Nat.blt k unk with
                | true => match Nat.ble (Nat.add sl n) k with
                  | true => match H.blks.get i with
                    | some (.row _ e' sz' m cs) => match Nat.ble (Nat.add (Nat.add o (Nat.mul sl sz)) (lenV l)) m with
                      | true => some (.slice a (Nat.add sl n) k, H.put i (fun ver => .row ver e' sz' m (putL cs l (Nat.add o (Nat.mul sl sz)))))
                      | false => none
                    | _ => none
                  | false => match newsN H sz s sl with
                    | some ol => some (.slice (some ⟨H.next, 0, none⟩) (Nat.add sl n) unk, H.push (.row H.clock e sz (Nat.mul (Nat.add sl n) sz) (putL (putL .nil ol 0) l (Nat.mul sl sz))))
                    | none => none
                | false => match Nat.beq k unk with
                  | true => match o with
                    | 0 => match H.blks.get i with
                      | some (.row _ e' sz' m cs) => match and (and (Nat.beq e' e) (Nat.beq sz' sz)) (Nat.ble (Nat.mul sl sz) m) with
                        | true => some (.slice (some ⟨H.next, 0, none⟩) (Nat.add sl n) unk, (H.kill i).push (.row H.clock e sz (Nat.mul (Nat.add sl n) sz) (putL cs l (Nat.mul sl sz))))
                        | false => none
                      | _ => none
                    | _ + 1 => none
                  | false => none
              | _ => none
          | false => none
        | none => none
      | none => none
    | _ => none
  | none => none
theorem grown_BR {φ : Emb} {z : List Value} {e sz c need ver : Nat} {l' : List Value} (hlen : l'.length = need * sz) (hz : z.length = sz) (hsz : 0 < sz) (hc : need ≤ c) (hm : c ≤ maxLen) (cs : Tr Value)
    (hcs : ∀ (j : Nat) v, j < need * sz → cs.get j = some v → ∃ v', l'[j]? = some v' ∧ VR φ v v') :
    BR φ c (.row ver e sz (need * sz) cs) (some (.cells ⟨l' ++ (Builtin.zeroCells ⟨z⟩ (c - need)).toList⟩ e)) := by
  refine ⟨_, (0, 0), rfl, fun j _ => by omega, ?_, fun j v hj hg => ?_⟩
  · rw [if_neg (by omega)]
    refine ⟨?_, hm, Nat.mul_le_mul_right _ hc⟩
    simp only [List.size_toArray, List.length_append, Array.length_toList, size_zeroCells, hlen, hz]
    rw [← Nat.add_mul]; congr 1; omega
  · obtain ⟨v', h1, h2⟩ := hcs j v hj hg
    refine ⟨v', ?_, h2⟩
    have hlt : j < l'.length := (List.getElem?_eq_some_iff.1 h1).1
    have : (l' ++ (Builtin.zeroCells ⟨z⟩ (c - need)).toList)[j]? = some v' := by rw [List.getElem?_append_left hlt]; exact h1
    simpa using this
theorem addr_zero (B n : Nat) : (⟨B, 0, none⟩ : Addr).add n = ⟨B, n, none⟩ := by rw [addr_add, Nat.zero_add]
theorem append_room_row {φ : Emb} {cs : Tr Value} {n c sz need ver e sl : Nat} {cur : Array Value} {fr : Nat × Nat} (hf : Unfz cur.size fr) (hcur : cur.size = c * sz ∧ c ≤ maxLen ∧ n ≤ c * sz) (hsz : 0 < sz) (h : ∀ (j : Nat) v, j < n → cs.get j = some v → ∃ v', cur[j]? = some v' ∧ VR φ v v')
    {l l' : List Value} (hl : VRs φ l l') (hlen : sl * sz + l.length = need * sz) (hsl : sl * sz ≤ n) (hneed : need ≤ c) :
    BR φ c (.row ver e sz (need * sz) (putL cs l (sl * sz))) (some (.cells ⟨segL cur.toList (sl * sz) l'⟩ e fr)) := by
  have hll := hl.1
  have hle : need * sz ≤ c * sz := Nat.mul_le_mul_right _ hneed
  have hcl : cur.toList.length = cur.size := Array.length_toList
  have hfit : sl * sz + l'.length ≤ cur.toList.length := by omega
  have h9 : (⟨segL cur.toList (sl * sz) l'⟩ : Array Value).size = cur.size := by simp only [List.size_toArray, segL_length hfit]; simp
  refine ⟨_, fr, rfl, by rw [h9]; exact hf, ?_, row_seg h hl (by simpa using hfit) (.inr (by rw [hlen]; exact Nat.le_refl _)) (.inl hsl)⟩
  rw [if_neg (by omega), h9]
  exact ⟨hcur.1, hcur.2.1, hle⟩
theorem wAppend_ok {P : Program} {base : Bas} {φ : Emb} {H : Heap} {w : World} (hH : HR base φ H w) {t u ty : TypeId} {s s' x x' : Value} (hs : VR φ s s') (hx : VR φ x x') {r : Value × Heap} (h : wAppend P H t u s x = some r) : WOk P base φ H w (Builtin.append_ #[t, u] ty #[s', x']) r.1 r.2 := by
  unfold wAppend at h
  split at h <;> try (cases h; done)
  rename_i e sz by_ z hel
  split at h <;> try (cases h; done)
  rename_i a sl k
  split at h <;> try (cases h; done)
  rename_i n hn
  split at h <;> try (cases h; done)
  rename_i l hl
  split at h <;> try (cases h; done)
  rename_i hc
  simp only [Bool.and_eq_true] at hc
  obtain ⟨⟨⟨hc1, hc2⟩, hc3, hc4⟩, hc5, hc6⟩ := hc
  have c1 := Nat.eq_of_beq_eq_true hc1
  have c2 : 0 < sz := Nat.le_of_ble_eq_true hc2
  have c5 : sl + n ≤ 100000 := Nat.le_of_ble_eq_true hc5
  have c6 := Nat.le_of_ble_eq_true hc6
  rw [lenV_eq] at c1
  obtain ⟨d, hd, hdk⟩ := intT_spec (o := P.underlying u) (by simpa using hc3)
  obtain ⟨i, zv, hu, hi, hz, rfl, rfl, hzc⟩ := elLay_spec hel
  obtain ⟨l', hv, hll, hf⟩ := newsN_ok (P := P) hH hx hn (Nat.le_refl n) hl
  have hlen := lenX_ok (P := P) hx hn
  have hlv := hv.1
  have hmax : sl + n ≤ maxLen := by simp only [maxLen]; omega
  -- a new row
  have grow : ∀ (ad : Option Addr) (k' : Nat) (ol' : List Value) (cs : Tr Value) (H1 : Heap), k' < sl + n → (Builtin.firstCells i.size sl (.slice ad sl k')).run P w.drew = .ok ⟨ol'⟩ w.drew → ol'.length = sl * i.size →
      (∀ (j : Nat) v, j < (sl + n) * i.size → cs.get j = some v → ∃ v', (ol' ++ l')[j]? = some v' ∧ VR φ v v') → HR base φ H1 w → FR φ φ H H1 w w → H1.next = H.next → H1.clock = H.clock →
      WOk P base φ H w (Builtin.append_ #[t, u] ty #[.slice ad sl k', x']) (.slice (some ⟨H.next, 0, none⟩) (sl + n) unk) (H1.push (.row H.clock e i.size ((sl + n) * i.size) cs)) := by
    intro ad k' ol' cs H1 hk ho hol hcs hH1 hF1 hn1 hcl
    have hr := run_append_new (P := P) w (ty := ty) hu hi hz hd hdk ad sl k' n x' l' ol' (hlen w) (hf w.drew rfl) ho hk c5 c6
    have hge := grownCap_ge w (sl + n) k' e
    have hcm := grownCap_le_maxLen w (sl + n) k' e hmax
    have hsum : (ol' ++ l').length = (sl + n) * i.size := by rw [List.length_append, hol, ← hlv, hll, Nat.add_mul]
    rw [hzc] at hr
    obtain ⟨k1, k2, k3, k4⟩ := hH1.drew.push (.row H.clock e i.size ((sl + n) * i.size) cs) (.cells ⟨ol' ++ l' ++ (Builtin.zeroCells ⟨z⟩ (grownCap w (sl + n) k' e - (sl + n))).toList⟩ e) (grownCap w (sl + n) k' e) (by rw [hcl]; exact Nat.le_refl _)
      (grown_BR hsum c1 c2 hge hcm cs hcs)
    have hFd : FR φ φ H H1 w w.drew := hF1.trans (Ext.refl φ) (Ext.refl φ) (FR.drew φ H1 w)
    refine ⟨_, _, _, k1, k2, hFd.trans (Ext.refl φ) k1 k3, ?_, hr⟩
    rw [hn1] at k4
    exact .slG _ k4 hge
  split at h
  · -- nothing is appended
    split at h <;> try (cases h; done)
    rename_i hk
    injection h with h; subst h
    have hk' := Nat.le_of_ble_eq_true hk
    have hl0 : l' = [] := List.eq_nil_of_length_eq_zero (by rw [← hlv, hll]; simp)
    subst hl0
    have fin : ∀ (ad : Option Addr) (k' : Nat), sl ≤ k' → VR φ (.slice a sl k) (.slice ad sl k') → WOk P base φ H w (Builtin.append_ #[t, u] ty #[.slice ad sl k', x']) (.slice a sl k) H := by
      intro ad k' hk' hv'
      refine ⟨φ, _, w, Ext.refl φ, hH, FR.refl φ H w, hv', ?_⟩
      exact run_append_fit (P := P) w hu hi hd hdk ad sl k' 0 x' [] (hlen w) (hf w rfl) hk' (fun a _ => rfl) (fun _ => rfl)
    cases hs with
    | slNil => exact fin _ _ hk' (.slNil _ _)
    | sl _ _ hk hp => exact fin _ _ hk' (.sl _ _ hk hp)
    | slG _ hp hl => exact fin _ _ hl (.slG _ hp hl)
    | slO _ c' hp hl ho => exact fin _ _ hl (.slO _ _ hp hl ho)
    | slE _ _ _ => exact fin _ _ (Nat.zero_le _) (.slE _ _ _)
  · rename_i n1
    split at h <;> try (cases h; done)
    · -- onto nil
      split at h <;> try (cases h; done)
      rename_i h00
      simp only [Bool.and_eq_true] at h00
      have e1 := Nat.eq_of_beq_eq_true h00.1
      have e2 := Nat.eq_of_beq_eq_true h00.2
      subst e1; subst e2
      injection h with h; subst h
      cases hs with
      | slNil =>
      have := grow none 0 [] (putL .nil l 0) H (by omega) rfl (by simp) (fun j v hj hg => by
        rw [putL_get] at hg
        rw [if_pos (by rw [hll]; simp at hj ⊢; exact hj)] at hg
        obtain ⟨v', h1, h2⟩ := hv.get hg
        exact ⟨v', by simpa using h1, h2⟩) hH (FR.refl φ H w) rfl rfl
      simpa using this
    · rename_i ii o
      split at h
      · rename_i hkk
        have hkk' : k < unk := Nat.le_of_ble_eq_true hkk
        cases hs with
        | slG _ hp hl => exact absurd hkk' (Nat.lt_irrefl _)
        | slO _ c' hp hl ho => exact absurd hkk' (Nat.lt_irrefl _)
        | slE _ _ _ => exact absurd hkk' (by unfold unk unk2; omega)
        | sl _ _ hk hp =>
        rename_i B c
        split at h
        · rename_i hfit
          have hfit' : sl + (n1 + 1) ≤ k := Nat.le_of_ble_eq_true hfit
          split at h <;> try (cases h; done)
          rename_i ver e' sz' m cs hib
          split at h <;> try (cases h; done)
          rename_i hm
          injection h with h; subst h
          have hm' := Nat.le_of_ble_eq_true hm
          rw [lenV_eq] at hm'
          have hm2 : o + sl * i.size + l.length ≤ m := hm'
          obtain ⟨cur, fr, h1, h2, h3, h4⟩ := hH.row hp hib
          have hmc : m ≤ cur.size := by
            split at h3
            · omega
            · obtain ⟨h5, h6, h7⟩ := h3; omega
          obtain ⟨k1, k2⟩ := row_put hH hp hib hv h1 hm2
          have hst := run_storeCells_fr (P := P) B (o + sl * i.size) e' fr l' 0 cur w h1 h2 (by omega) (oneL_ok hv hc4)
          refine ⟨φ, _, _, Ext.refl φ, k1, k2, .sl _ _ hk hp, ?_⟩
          refine run_append_fit (P := P) w hu hi hd hdk _ sl k (n1 + 1) x' l' (hlen w) (hf w rfl) hfit' (fun a ha => ?_) (fun h0 => by cases h0)
          injection ha with ha; subst ha
          rw [addr_add]; exact hst
        · rename_i hfit
          have hfit' : k < sl + (n1 + 1) := by
            have : ¬ sl + (n1 + 1) ≤ k := fun hle => by
              have := Nat.ble_eq_true_of_le hle
              have h8 : (Nat.add sl n1.succ).ble k = true := this
              rw [h8] at hfit; cases hfit
            omega
          split at h <;> try (cases h; done)
          rename_i ol hol
          injection h with h; subst h
          obtain ⟨ol', hov, holl, hof⟩ := newsN_ok (P := P) hH (VR.sl sl k hk hp) (n := sl) rfl (Nat.le_refl sl) hol
          have holl' : ol'.length = sl * i.size := by rw [← hov.1]; exact holl
          exact grow _ k ol' _ H hfit' (hof w.drew rfl) holl' (fun j v hj hg => by
            have hoo : Nat.mul sl i.size = ol.length := holl.symm
            rw [putL_get, putL_get] at hg
            by_cases hjl : j < ol.length
            · rw [if_neg (by omega), if_pos (by omega)] at hg
              obtain ⟨v', h1, h2⟩ := hov.get (j := j) (by simpa using hg)
              exact ⟨v', by rw [List.getElem?_append_left (by rw [← hov.1]; exact hjl)]; exact h1, h2⟩
            · by_cases hj2 : Nat.mul sl i.size ≤ j ∧ j < Nat.mul sl i.size + l.length
              · rw [if_pos hj2] at hg
                obtain ⟨v', h1, h2⟩ := hv.get hg
                exact ⟨v', by rw [List.getElem?_append_right (by rw [← hov.1]; omega), holl']; exact h1, h2⟩
              · rw [if_neg hj2, if_neg (by omega)] at hg
                rw [Tr.get_nil] at hg; cases hg) hH (FR.refl φ H w) rfl rfl
      · rename_i hkk
        split at h <;> try (cases h; done)
        rename_i hku
        have hku' := Nat.eq_of_beq_eq_true hku
        subst hku'
        split at h <;> try (cases h; done)
        split at h <;> try (cases h; done)
        rename_i ver e' sz' m cs hib
        split at h <;> try (cases h; done)
        rename_i hm
        injection h with h; subst h
        simp only [Bool.and_eq_true] at hm
        have m1 := Nat.eq_of_beq_eq_true hm.1.1
        have m2 := Nat.eq_of_beq_eq_true hm.1.2
        have m3 : sl * i.size ≤ m := Nat.le_of_ble_eq_true hm.2
        subst m1; subst m2
        cases hs with
        | sl _ _ hk hp => exact absurd hk (Nat.lt_irrefl _)
        | slO _ c' hp hl ho => exact absurd ho (Nat.lt_irrefl _)
        | slG _ hp hle =>
        rename_i B c
        obtain ⟨cur, fr, h1, h2, h3, h4⟩ := hH.row hp hib
        rw [if_neg (by omega)] at h3
        have hin := (hH.ver ii _ hib).2
        obtain ⟨hHk, hFk⟩ := hH.kill hib rfl
        by_cases hroom : sl + (n1 + 1) ≤ c
        · have hfitc : sl * i.size + l.length = (sl + (n1 + 1)) * i.size := by rw [hll, Nat.add_mul]
          have hle2 : (sl + (n1 + 1)) * i.size ≤ c * i.size := Nat.mul_le_mul_right _ hroom
          have hst := run_storeCells_fr (P := P) B (sl * i.size) e' fr l' 0 cur w h1 h2 (by omega) (oneL_ok hv hc4)
          have hb := append_room_row (φ := φ) (ver := H.clock) (e := e') h2 h3 c2 h4 hv hfitc m3 hroom
          obtain ⟨k1, k2, k3, k4⟩ := hHk.take (w' := w.setRow B ⟨segL cur.toList (sl * i.size) l'⟩) (.row H.clock e' i.size ((sl + (n1 + 1)) * i.size) (putL cs l (sl * i.size))) B c
            (fun j bj d0 hj hlv hpj => by
              rcases kill_get hj with ⟨_, rfl⟩ | ⟨hne, hj⟩
              · exact hlv
              · exact hne (hH.sep j ii bj _ B d0 c hj hib hlv trivial hpj hp)) ⟨ii, c, hp⟩ (Nat.le_refl _) (setRow_grownBy _) (by simp) (by
              rw [setRow_heap w B cur _ e' fr h1]; exact hb)
          refine ⟨_, _, _, k1, k2, hFk.trans (Ext.refl φ) k1 k3, .slG _ k4 hroom, ?_⟩
          refine run_append_fit (P := P) w hu hi hd hdk _ sl c (n1 + 1) x' l' (hlen w) (hf w rfl) hroom (fun a ha => ?_) (fun h0 => by cases h0)
          clear hroom k1 k2 k3 k4
          have ha' := Option.some.inj ha
          rw [← ha', addr_zero]
          exact hst
        · have hsz2 : (cur.toList.take (sl * i.size)).length = sl * i.size := by rw [List.length_take, Array.length_toList]; omega
          have hread := run_loadCells_list (P := P) w.drew ⟨B, 0, none⟩ (cur.toList.take (sl * i.size)) (fun j u hu => by
            have hB : w.drew.heap[B]? = some (.cells cur e' fr) := h1
            rw [addr_add, cell_in hB, Nat.zero_add]
            rw [List.getElem?_take] at hu
            split at hu
            · simpa using hu
            · cases hu)
          rw [hsz2] at hread
          exact grow _ c _ _ (H.kill ii) (by omega) hread hsz2 (fun j v hj hg => by
            rw [putL_get] at hg
            by_cases hj2 : Nat.mul sl i.size ≤ j ∧ j < Nat.mul sl i.size + l.length
            · rw [if_pos hj2] at hg
              obtain ⟨v', g1, g2⟩ := hv.get hg
              have h8 : sl * i.size ≤ j := hj2.1
              exact ⟨v', by rw [List.getElem?_append_right (by omega), hsz2]; exact g1, g2⟩
            · rw [if_neg hj2] at hg
              have h8 : j < sl * i.size := by
                have hj' : j < (sl + (n1 + 1)) * i.size := hj
                have h7 : (sl + (n1 + 1)) * i.size = sl * i.size + l.length := by rw [hll, Nat.add_mul]
                have h6 : Nat.mul sl i.size = sl * i.size := rfl
                omega
              obtain ⟨v', g1, g2⟩ := h4 j v (by omega) hg
              refine ⟨v', ?_, g2⟩
              rw [List.getElem?_append_left (by omega), List.getElem?_take, if_pos h8]
              simpa using g1) hHk hFk rfl rfl
/-! ## append(nil, make([]T, n)...) -/
def isIntT (o : Option TypeDesc) : Bool := match o with | some (.int _) => true | _ => false
theorem isIntT_spec {o : Option TypeDesc} (h : isIntT o = true) : ∃ k, o = some (.int k) := by
  cases o with
  | none => cases h
  | some d => cases d <;> first | exact ⟨_, rfl⟩ | cases h
noncomputable def wAppZ (P : Program) (H : Heap) (t u : TypeId) (s x : Value) : Option (Value × Heap) :=
  match s with
  | .slice none sl k => match x with
    | .int _ (.ofNat n) => match elLay P t with
      | some (e, sz, by_, z) => match and (and (and (Nat.beq sl 0) (Nat.beq k 0)) (and (Nat.beq (lenV z) sz) (Nat.blt 0 sz))) (and (and (isIntT (P.underlying u)) (plainL z)) (and (Nat.blt 0 n) (and (Nat.ble n 100000) (Nat.ble by_ 100000)))) with
        | true => some (.slice (some ⟨H.next, 0, none⟩) n unk, H.push (.row H.clock e sz (Nat.mul n sz) (putL .nil (repL z n) 0)))
        | false => none
      | none => none
    | _ => none
  | _ => none
theorem wAppZ_ok {P : Program} {base : Bas} {φ : Emb} {H : Heap} {w : World} (hH : HR base φ H w) {t u ty : TypeId} {s s' x x' : Value} (hs : VR φ s s') (hx : VR φ x x') {r : Value × Heap} (h : wAppZ P H t u s x = some r) : WOk P base φ H w (Builtin.append_ #[t, u] ty #[s', x']) r.1 r.2 := by
  unfold wAppZ at h
  split at h <;> try (cases h; done)
  rename_i sl k
  split at h <;> try (cases h; done)
  rename_i kq n
  split at h <;> try (cases h; done)
  rename_i e sz by_ z hel
  split at h <;> try (cases h; done)
  rename_i hc
  injection h with h; subst h
  simp only [Bool.and_eq_true] at hc
  obtain ⟨⟨⟨c1, c2⟩, c3, c4⟩, ⟨c5, c6⟩, c7, c8, c9⟩ := hc
  have c1 := Nat.eq_of_beq_eq_true c1
  have c2 := Nat.eq_of_beq_eq_true c2
  have c3 := Nat.eq_of_beq_eq_true c3
  have c4 : 0 < sz := Nat.le_of_ble_eq_true c4
  have c7 : 0 < n := Nat.le_of_ble_eq_true c7
  have c8 := Nat.le_of_ble_eq_true c8
  have c9 := Nat.le_of_ble_eq_true c9
  subst c1; subst c2
  rw [lenV_eq] at c3
  obtain ⟨kn, hkn⟩ := isIntT_spec c5
  obtain ⟨i, zv, hu, hi, hz, rfl, rfl, hzc⟩ := elLay_spec hel
  cases hs
  cases hx
  have hr := Lib.run_append_nil_zeros (P := P) w t u ty e i zv kq kn hu hkn hi hz n c7 c4 (by omega) (Nat.le_trans (Nat.mul_le_mul c8 c9) (by decide))
  have hz1 : (Builtin.zeroCells zv.cells n) = ⟨repL z n⟩ := by
    rw [hzc]
    have := madeCells_eq z n i.size c3
    rw [← c3] at this
    exact this
  have hge := grownCap_ge w n 0 e
  have hcm := grownCap_le_maxLen w n 0 e (by simp only [maxLen]; omega)
  rw [hz1, hzc] at hr
  obtain ⟨k1, k2, k3, k4⟩ := hH.drew.push (.row H.clock e i.size (n * i.size) (putL .nil (repL z n) 0)) (.cells ⟨repL z n ++ (Builtin.zeroCells ⟨z⟩ (grownCap w n 0 e - n)).toList⟩ e) (grownCap w n 0 e) (Nat.le_refl _)
    (grown_BR (by rw [repL_length, c3]) c3 c4 hge hcm _ (fun j v hj hg => by
      rw [putL_get] at hg
      split at hg
      · rename_i hb
        rw [Nat.sub_zero] at hg
        exact (VRs.plain (φ := φ) (plainL_rep z c6 n)).get hg
      · simp at hg))
  have hF : FR φ φ H H w w.drew := FR.drew φ H w
  refine ⟨_, _, _, k1, k2, hF.trans (Ext.refl φ) k1 k3, .slG _ k4 hge, ?_⟩
  rw [show (Value.int kq (Int.ofNat n)) = .int kq n from rfl, hr]
  congr 2
  congr 1
  apply Array.ext'; simp
noncomputable def wAppend2 (P : Program) (H : Heap) (t u : TypeId) (s x : Value) : Option (Value × Heap) :=
  match wAppend P H t u s x with
  | some r => some r
  | none => wAppZ P H t u s x
theorem wAppend2_ok {P : Program} {base : Bas} {φ : Emb} {H : Heap} {w : World} (hH : HR base φ H w) {t u ty : TypeId} {s s' x x' : Value} (hs : VR φ s s') (hx : VR φ x x') {r : Value × Heap} (h : wAppend2 P H t u s x = some r) : WOk P base φ H w (Builtin.append_ #[t, u] ty #[s', x']) r.1 r.2 := by
  unfold wAppend2 at h
  split at h
  · rename_i r' hr
    injection h with h; subst h
    exact wAppend_ok hH hs hx hr
  · exact wAppZ_ok hH hs hx h
end Go.Ev
namespace Go.Ev
open Go Go.RowKit
set_option linter.unusedVariables false
set_option linter.unusedSimpArgs false

def u8V (b : UInt8) : Value := .int .u8 (.ofNat b.toNat)
/-- bytes out of a text: a new row -/
noncomputable def wConv (P : Program) (H : Heap) (s d : TypeId) (v : Value) : Option (Value × Heap) :=
  match cnvLay P s d with
  | some (3, _) => match v with
    | .string x => match elLay P d with
      | some (e, _, _, _) => match Nat.ble (lenB (bs x)) 100000 with
        | true => some (.slice (some ⟨H.next, 0, none⟩) (lenB (bs x)) unk, H.push (.row H.clock e 1 (lenB (bs x)) (putL .nil ((bs x).map u8V) 0)))
        | false => none
      | none => none
    | _ => none
  | _ => none
theorem wConv_ok {P : Program} {base : Bas} {φ : Emb} {H : Heap} {w : World} (hH : HR base φ H w) {s d : TypeId} {v v' : Value} (hv : VR φ v v') {r : Value × Heap} (h : wConv P H s d v = some r) : WOk P base φ H w (convert s d v') r.1 r.2 := by
  unfold wConv at h
  split at h <;> try (cases h; done)
  rename_i k hl
  split at h <;> try (cases h; done)
  rename_i x
  split at h <;> try (cases h; done)
  rename_i e sz by_ z hel
  split at h <;> try (cases h; done)
  rename_i hle
  injection h with h; subst h
  rcases cnvLay_spec hl with ⟨h0, _⟩ | ⟨h0, _⟩ | ⟨h0, _⟩ | ⟨_, e', hs, hd, he⟩ | ⟨h0, _⟩ | ⟨h0, _⟩ | ⟨h0, _⟩ <;> try (cases h0; done)
  obtain ⟨i, zv, hu, hi, hz, rfl, rfl, hzc⟩ := elLay_spec hel
  rw [hd] at hu; injection hu with hu; injection hu with hu; subst hu
  cases hv
  have hle' := Nat.le_of_ble_eq_true hle
  rw [lenB_eq] at hle' ⊢
  have hsz : x.size = (bs x).length := bs_size x
  have hr := run_bytes_of_string (P := P) w s d e' x hs hd he
  have hge := grownCap_ge w x.size 0 e'
  have hcm := grownCap_le_maxLen w x.size 0 e' (by simp only [maxLen]; omega)
  have hrow : (bytesRow x (grownCap w x.size 0 e')).size = grownCap w x.size 0 e' := by
    simp only [bytesRow, Array.size_append, Array.size_map, Array.size_replicate]
    have : x.data.size = x.size := rfl
    omega
  obtain ⟨k1, k2, k3, k4⟩ := hH.drew.push (.row H.clock e' 1 (bs x).length (putL .nil ((bs x).map u8V) 0)) (.cells (bytesRow x (grownCap w x.size 0 e')) e' ((bytesRow x (grownCap w x.size 0 e')).size, (bytesRow x (grownCap w x.size 0 e')).size + 1))
    (grownCap w x.size 0 e') (Nat.le_refl _) ⟨_, _, rfl, fun j hj => (by simp only; omega), by
      rw [if_neg (by decide), hrow]; exact ⟨by omega, hcm, by omega⟩, fun j v hj hg => by
        rw [putL_get] at hg
        rw [if_pos (by simp; omega)] at hg
        have hjx : j < x.data.size := by
          have : x.data.size = x.size := rfl
          omega
        refine ⟨_, bytesRow_at x _ j hjx, ?_⟩
        obtain ⟨⟨l⟩⟩ := x
        have hjl : j < l.length := hj
        simp [bs, hjl] at hg
        subst hg
        exact .int _ _⟩
  have hFd := (FR.drew φ H w).trans (Ext.refl φ) k1 k3
  refine ⟨_, _, _, k1, k2, hFd, ?_, hr⟩
  show VR _ (.slice (some ⟨H.next, 0, none⟩) (bs x).length unk) _
  rw [← hsz]
  exact .slG _ k4 hge

/-! ## bytes of a constant: the row is marked -/
def isB8 (P : Program) (d : TypeId) : Bool := match P.underlying d with | some (.slice e) => (match P.underlying e with | some (.int .u8) => true | _ => false) | _ => false
theorem isB8_spec {P : Program} {d : TypeId} (h : isB8 P d = true) : ∃ e, P.underlying d = some (.slice e) ∧ P.underlying e = some (.int .u8) := by
  unfold isB8 at h
  split at h <;> try (cases h; done)
  rename_i e he
  split at h <;> try (cases h; done)
  rename_i h2
  exact ⟨e, he, h2⟩
noncomputable def wConvS (P : Program) (H : Heap) (s d : TypeId) (v : Value) : Option (Value × Heap) :=
  match v with
  | .slice (some ⟨i, o, none⟩) l k => match and (and (Nat.beq s d) (isB8 P d)) (Nat.blt k unk) with
    | true => match H.blks.get i with
      | some (.row _ e sz n cs) => some (v, H.put i (fun ver => .row ver e sz n cs))
      | _ => none
    | false => none
  | _ => none
theorem modify_grownBy {w : World} {r : Nat} (f : Obj → Obj) : w.grownBy { w with heap := w.heap.modify r f } (some r) :=
  ⟨rfl, rfl, rfl, by simp, fun k _ hk => by
    show (w.heap.modify r f)[k]? = _
    rw [Array.getElem?_modify, if_neg (fun e => hk (by rw [e]))]⟩
theorem wConvS_ok {P : Program} {base : Bas} {φ : Emb} {H : Heap} {w : World} (hH : HR base φ H w) {s d : TypeId} {v v' : Value} (hv : VR φ v v') {r : Value × Heap} (h : wConvS P H s d v = some r) : WOk P base φ H w (convert s d v') r.1 r.2 := by
  unfold wConvS at h
  split at h <;> try (cases h; done)
  rename_i i o l k
  split at h <;> try (cases h; done)
  rename_i hc
  split at h <;> try (cases h; done)
  rename_i v0 e sz n cs hi
  injection h with h; subst h
  simp only [Bool.and_eq_true] at hc
  obtain ⟨⟨hc1, hc2⟩, hc3⟩ := hc
  have hsd := Nat.eq_of_beq_eq_true hc1
  subst hsd
  have hk : k < unk := Nat.le_of_ble_eq_true hc3
  obtain ⟨e', hd, he⟩ := isB8_spec hc2
  have main : ∀ B c : Nat, φ[i]? = some (B, c) → ∀ k', VR φ (.slice (some ⟨i, o, none⟩) l k) (.slice (some ⟨B, o, none⟩) l k') → WOk P base φ H w (convert s s (.slice (some ⟨B, o, none⟩) l k')) (.slice (some ⟨i, o, none⟩) l k) (H.put i (fun ver => .row ver e sz n cs)) := by
    intro B c hp k' hv'
    obtain ⟨cur, fr, h1, hf, h2, h3⟩ := hH.blk i _ B c hi hp
    have hsh : w.shape? B = some (e, cur.size) := by unfold World.shape?; rw [h1]
    obtain ⟨lo, hi'⟩ := fr
    have hheap : (w.freeze ⟨B, cur.size, none⟩ 1).heap[B]? = some (.cells cur e (if lo == hi' then (cur.size, cur.size + 1) else (min lo cur.size, max hi' (cur.size + 1)))) := by
      unfold World.freeze
      rw [if_neg (by decide)]
      show (w.heap.modify B _)[B]? = _
      rw [Array.getElem?_modify, if_pos rfl, h1]
      rfl
    have hg : w.grownBy (w.freeze ⟨B, cur.size, none⟩ 1) (some B) := by
      unfold World.freeze
      rw [if_neg (by decide)]
      exact modify_grownBy _
    have hsz : (w.freeze ⟨B, cur.size, none⟩ 1).heap.size = w.heap.size := by
      unfold World.freeze
      rw [if_neg (by decide)]
      show (w.heap.modify B _).size = _
      simp
    obtain ⟨k1, k2⟩ := hH.put i _ (fun ver => .row ver e sz n cs) B c hi trivial hp (fun _ => rfl) hg hsz ⟨cur, _, hheap, fun j hj => by
      split
      · simp only; omega
      · rename_i hne
        have hne' : lo ≠ hi' := by simpa using hne
        have hlo : cur.size ≤ lo := by
          rcases Nat.lt_or_ge lo cur.size with hlt | hge
          · exact absurd ⟨Nat.le_refl _, by simp only; omega⟩ (hf lo hlt)
          · exact hge
        simp only
        omega, h2, h3⟩
    refine ⟨φ, _, _, Ext.refl φ, k1, k2, hv', ?_⟩
    simp [convert, run_underlying hd, run_underlying he, markStringish, hsh]
  cases hv with
  | sl l k hk' hp => exact main _ _ hp _ (.sl l k hk' hp)
  | slG l hp hle => exact absurd hk (by unfold unk; omega)
  | slO l c' hp hle ho => exact absurd hk (by unfold unk; omega)
  | slE a a' c' => exact absurd hk (by unfold unk unk2; omega)
/-! ## clear of a slice -/
noncomputable def wClear (P : Program) (H : Heap) (t : TypeId) (x : Value) : Option (Value × Heap) :=
  match x with
  | .slice none _ _ => match P.underlying t with | some (.slice _) => some (.tuple ⟨[]⟩, H) | _ => none
  | .slice (some ⟨i, o, none⟩) (l + 1) k => match elLay P t with
    | some (_, sz, _, z) => match and (and (Nat.beq (lenV z) sz) (Nat.blt k unk)) (and (plainL (repL z (l + 1))) (oneL (repL z (l + 1)))) with
      | true => match H.blks.get i with
        | some (.row _ e sz' n cs) => match Nat.ble (Nat.add o (lenV (repL z (l + 1)))) n with
          | true => some (.tuple ⟨[]⟩, H.put i (fun ver => .row ver e sz' n (putL cs (repL z (l + 1)) o)))
          | false => none
        | _ => none
      | false => none
    | none => none
  | _ => none
theorem wClear_ok {P : Program} {base : Bas} {φ : Emb} {H : Heap} {w : World} (hH : HR base φ H w) {t ty : TypeId} {x x' : Value} (hx : VR φ x x') {r : Value × Heap} (h : wClear P H t x = some r) : WOk P base φ H w (Builtin.clear_ #[t] ty #[x']) r.1 r.2 := by
  unfold wClear at h
  split at h <;> try (cases h; done)
  · split at h <;> try (cases h; done)
    rename_i e hu
    injection h with h; subst h
    cases hx
    exact ⟨φ, _, w, Ext.refl φ, hH, FR.refl φ H w, .tuple [] [] rfl (by simp), by simp [Builtin.clear_, run_underlying hu]⟩
  · rename_i i o l k
    split at h <;> try (cases h; done)
    rename_i e0 sz by_ z hel
    split at h <;> try (cases h; done)
    rename_i hc
    split at h <;> try (cases h; done)
    rename_i v0 e sz' n cs hi
    split at h <;> try (cases h; done)
    rename_i hle
    injection h with h; subst h
    simp only [Bool.and_eq_true] at hc
    obtain ⟨⟨c1, c2⟩, c3, c4⟩ := hc
    have c1 := Nat.eq_of_beq_eq_true c1
    have c2 : k < unk := Nat.le_of_ble_eq_true c2
    have hle' := Nat.le_of_ble_eq_true hle
    rw [lenV_eq] at c1 hle'
    obtain ⟨ii, zv, hu, hii, hz, rfl, rfl, hzc⟩ := elLay_spec hel
    have hz1 : (Builtin.zeroCells zv.cells (l + 1)) = ⟨repL z (l + 1)⟩ := by
      rw [hzc]
      have := madeCells_eq z (l + 1) ii.size c1
      rw [← c1] at this
      exact this
    have hz2 : (zeroValue e0).run P w = .ok zv w := by simp [zeroValue, typeInfo, hii, hz]
    have main : ∀ B c : Nat, φ[i]? = some (B, c) → ∀ k', WOk P base φ H w (Builtin.clear_ #[t] ty #[.slice (some ⟨B, o, none⟩) (l + 1) k']) (.tuple ⟨[]⟩) (H.put i (fun ver => .row ver e sz' n (putL cs (repL z (l + 1)) o))) := by
      intro B c hp k'
      obtain ⟨cur, fr, h1, h2, h3, h4⟩ := hH.row hp hi
      have hn : n ≤ cur.size := by
        split at h3
        · omega
        · obtain ⟨h5, h6, h7⟩ := h3; omega
      have hv : VRs φ (repL z (l + 1)) (repL z (l + 1)) := VRs.plain c3
      obtain ⟨k1, k2⟩ := row_put hH hp hi hv h1 (by simpa using hle')
      have hst := run_storeCells_fr (P := P) B o e fr (repL z (l + 1)) 0 cur w h1 h2 (by simp at hle' ⊢; omega) (oneL_ok hv c4)
      refine ⟨φ, _, _, Ext.refl φ, k1, k2, .tuple [] [] rfl (by simp), ?_⟩
      simp [Builtin.clear_, run_underlying hu, hz2, hz1, hst]
    cases hx with
    | sl l k hk' hp => exact main _ _ hp _
    | slG l hp hle => exact absurd c2 (by unfold unk; omega)
    | slO l c' hp hle ho => exact absurd c2 (by unfold unk; omega)
noncomputable def wConv2 (P : Program) (H : Heap) (s d : TypeId) (v : Value) : Option (Value × Heap) :=
  match wConv P H s d v with
  | some r => some r
  | none => wConvS P H s d v
theorem wConv2_ok {P : Program} {base : Bas} {φ : Emb} {H : Heap} {w : World} (hH : HR base φ H w) {s d : TypeId} {v v' : Value} (hv : VR φ v v') {r : Value × Heap} (h : wConv2 P H s d v = some r) : WOk P base φ H w (convert s d v') r.1 r.2 := by
  unfold wConv2 at h
  split at h
  · rename_i r' hr
    injection h with h; subst h
    exact wConv_ok hH hv hr
  · exact wConvS_ok hH hv h
/-- A block forgotten while it turns. -/
theorem HR.killput {base : Bas} {φ : Emb} {H : Heap} {w w' : World} (h : HR base φ H w) {i : Nat} {b0 : ABlk} {B c : Nat} (hi : H.blks.get i = some b0) (hl : b0.live) (hp : φ[i]? = some (B, c)) (hw : w.grownBy w' (some B)) (hs : w'.heap.size = w.heap.size) (hro : isRo (some b0) = false := by rfl) :
    HR base φ (H.kill i) w' ∧ FR φ φ H (H.kill i) w w' := by
  have hoth : ∀ (j : Nat) (b' : ABlk) (B' c' : Nat), (H.kill i).blks.get j = some b' → b'.live → φ[j]? = some (B', c') → w'.heap[B']? = w.heap[B']? := by
    intro j b' B' c' hb' hl' hp'
    rcases kill_get hb' with ⟨_, rfl⟩ | ⟨hne, hj⟩
    · exact hl'.elim
    · exact hw.block B' (h.rng j B' c' hp').2 (fun e => hne (by injection e with e; subst e; exact h.sep j i b' b0 B' c' c hj hi hl' hl hp' hp))
  obtain ⟨k1, k2⟩ := h.kill hi hro
  refine ⟨⟨k1.len, k1.ver, k1.sep, fun j b B' c' hj fj => ?_, fun j B' c' fj => ?_, by rw [hs]; exact h.base, h.gl, h.inv.grown hw h.base (fun k hk => by injection hk with hk; subst hk; exact (h.rng i B c hp).1 (by rw [hi]; exact hro))⟩, ⟨hw.os, hw.tape, hw.output, hw.size, k2.clock, fun B' hB' hn => hw.block B' hB' (fun e => by injection e with e; subst e; exact hn i c hp), k2.fresh, fun j B' c' b fj hb hl' _ => hoth j b B' c' hb hl' fj, k2.mono, k2.keep⟩⟩
  · by_cases hl' : b.live
    · rw [hoth j b B' c' hj hl' fj]; exact k1.blk j b B' c' hj fj
    · cases b <;> simp [ABlk.live] at hl'; trivial
  · have := k1.rng j B' c' fj; exact ⟨this.1, by omega⟩
/-- a text over bytes -/
noncomputable def wStr (P : Program) (H : Heap) (pt : TypeId) (p n : Value) : Option (Value × Heap) :=
  match n with
  | .int .i64 (.ofNat n) => match n with
    | 0 => match p with | .pointer _ => some (.string ⟨⟨[]⟩⟩, H) | _ => none
    | _ + 1 => match p with
      | .pointer (some ⟨i, 0, none⟩) => match H.blks.get i with
        | some (.row _ e _ m cs) => match P.underlying pt with
          | some (.pointer u) => match and (and (Nat.beq u e) (Nat.beq (P.cellsOf u) 1)) (and (Nat.ble n m) (Nat.ble n 1000000)) with
            | true => match cellsL cs n 0 with
              | some xs => match bytesL xs with | some b => some (.string ⟨⟨b⟩⟩, H.kill i) | none => none
              | none => none
            | false => none
          | _ => none
        | _ => none
      | _ => none
  | _ => none
theorem wStr_ok {P : Program} {base : Bas} {φ : Emb} {H : Heap} {w : World} (hH : HR base φ H w) {pt it ty : TypeId} {p p' n n' : Value} (hp : VR φ p p') (hn : VR φ n n') {r : Value × Heap} (h : wStr P H pt p n = some r) : WOk P base φ H w (Builtin.unsafeString_ #[pt, it] ty #[p', n']) r.1 r.2 := by
  unfold wStr at h
  split at h <;> try (cases h; done)
  rename_i n
  cases hn
  split at h
  · split at h <;> try (cases h; done)
    injection h with h; subst h
    have : ∃ a, p' = .pointer a := by cases hp <;> exact ⟨_, rfl⟩
    obtain ⟨a, rfl⟩ := this
    exact ⟨φ, _, w, Ext.refl φ, hH, FR.refl φ H w, .str _, Lib.run_unsafeString_none w pt it ty a⟩
  · rename_i n1
    split at h <;> try (cases h; done)
    rename_i i
    split at h <;> try (cases h; done)
    rename_i ver e sz m cs hi
    split at h <;> try (cases h; done)
    rename_i u hu
    split at h <;> try (cases h; done)
    rename_i hc
    split at h <;> try (cases h; done)
    rename_i xs hxs
    split at h <;> try (cases h; done)
    rename_i b hb
    injection h with h; subst h
    simp only [Bool.and_eq_true] at hc
    have c1 := Nat.eq_of_beq_eq_true hc.1.1
    have c2 := Nat.eq_of_beq_eq_true hc.1.2
    have c3 := Nat.le_of_ble_eq_true hc.2.1
    have c4 := Nat.le_of_ble_eq_true hc.2.2
    subst c1
    cases hp with
    | ptr hpp =>
    rename_i B c
    obtain ⟨cur, fr, h1, h2, h3, h4⟩ := hH.row hpp hi
    have hmc : m ≤ cur.size := by
      split at h3
      · omega
      · obtain ⟨h5, h6, h7⟩ := h3; omega
    obtain ⟨ys, hv, hlen, hcs⟩ := cells_read h4 hxs (by omega)
    rw [bytesL_spec (φ := φ) hb] at hv
    have hys := hv.bytes
    subst hys
    have hbl : b.length = n1 + 1 := by simpa using hlen
    have hsh : w.shape? B = some (u, cur.size) := by simp [World.shape?, h1]
    have hr := Lib.run_unsafeString_row (P := P) w pt it ty u hu c2 B cur.size hsh b (by intro e0; rw [e0] at hbl; simp at hbl) (by omega) (by omega) (fun j x hj => by
      rw [addr_add, cell_in h1]
      exact hcs j _ (by simp [hj]))
    obtain ⟨k1, k2⟩ := hH.killput (w' := w.freeze ⟨B, 0, none⟩ b.length) hi trivial hpp ⟨by unfold World.freeze; split <;> rfl, by unfold World.freeze; split <;> rfl, by unfold World.freeze; split <;> rfl, by unfold World.freeze; split <;> simp, fun k _ hk => by
      unfold World.freeze
      split
      · rfl
      · simp only [Array.getElem?_modify]
        rw [if_neg (fun e => hk (by rw [e]))]⟩ (by unfold World.freeze; split <;> simp)
    refine ⟨φ, _, _, Ext.refl φ, k1, k2, .str _, ?_⟩
    have hnn : (Int.ofNat n1.succ) = (b.length : Int) := by rw [hbl]; rfl
    rw [hnn]
    exact hr
/-! ## writing operations -/
/-- What a writing operation does. -/
def OWk (P : Program) (base : Bas) (φ : Emb) (H : Heap) (w : World) (ρ : Operand → Value) (o : Oper) (v : Value) (H' : Heap) : Prop :=
  ∃ φ' v' w' nx, Ext φ φ' ∧ HR base φ' H' w' ∧ FR φ φ' H H' w w' ∧ VR φ' v v' ∧ (execOp ρ o).run P w = .ok nx w' ∧ (nx = .value v' ∨ (nx = .skip ∧ v' = undef))
theorem WOk.op {P : Program} {base : Bas} {φ : Emb} {H : Heap} {w : World} {ρ : Operand → Value} {o : Oper} {s : Sem Value} {v : Value} {H' : Heap} (h : WOk P base φ H w s v H') (he : (execOp ρ o).run P w = (s.run P w).andThen fun v w => .ok (.value v) w) : OWk P base φ H w ρ o v H' := by
  obtain ⟨φ', v', w', h1, h2, h3, h4, h5⟩ := h
  exact ⟨φ', v', w', .value v', h1, h2, h3, h4, by rw [he, h5]; rfl, .inl rfl⟩
def undefV : Value := .tuple ⟨[]⟩
noncomputable def wop1 (tm : Tr Value) (x : Operand) (f : Value → Option (Value × Heap)) : Option (Value × Heap) :=
  match ev tm x with | some v => f v | none => none
noncomputable def wop2 (tm : Tr Value) (x y : Operand) (f : Value → Value → Option (Value × Heap)) : Option (Value × Heap) :=
  match ev tm x with | some v => (match ev tm y with | some u => f v u | none => none) | none => none
theorem wop1_some {tm : Tr Value} {x : Operand} {f : Value → Option (Value × Heap)} {r : Value × Heap} (h : wop1 tm x f = some r) : ∃ v, ev tm x = some v ∧ f v = some r := by
  unfold wop1 at h
  split at h <;> try (cases h; done)
  rename_i v hv; exact ⟨v, hv, h⟩
theorem wop2_some {tm : Tr Value} {x y : Operand} {f : Value → Value → Option (Value × Heap)} {r : Value × Heap} (h : wop2 tm x y f = some r) : ∃ v u, ev tm x = some v ∧ ev tm y = some u ∧ f v u = some r := by
  unfold wop2 at h
  split at h <;> try (cases h; done)
  rename_i v hv
  split at h <;> try (cases h; done)
  rename_i u hu; exact ⟨v, u, hv, hu, h⟩
noncomputable def opStore (P : Program) (H : Heap) (t : TypeId) (a v : Value) : Option (Value × Heap) := match wStore P H t a v with | some H' => some (undefV, H') | none => none
noncomputable def opBuildS (P : Program) (H : Heap) (tm : Tr Value) (t : TypeId) (n : Nat) (ps : Array (Nat × Operand)) : Option (Value × Heap) := match evP tm ps.toList with | some l => wBuildS P H t n l | none => none
noncomputable def opWBuiltin (P : Program) (H : Heap) (tm : Tr Value) (b : Builtin) (args : Array Operand) (ts : Array TypeId) : Option (Value × Heap) :=
  match b with
  | .append => match args.toList with | [s, x] => (match ts.toList with | [t, u] => wop2 tm s x (wAppend2 P H t u) | _ => none) | _ => none
  | .copy => match args.toList with | [s, x] => (match ts.toList with | [t, u] => wop2 tm s x (wCopy P H t) | _ => none) | _ => none
  | .unsafeString => match args.toList with | [s, x] => (match ts.toList with | [t, u] => wop2 tm s x (wStr P H t) | _ => none) | _ => none
  | .clear => match args.toList with | [x] => (match ts.toList with | [t] => wop1 tm x (wClear P H t) | _ => none) | _ => none
  | _ => none
noncomputable def opWCall (P : Program) (H : Heap) (tm : Tr Value) (c : Call) : Option (Value × Heap) :=
  match c.callee with | .builtin b => opWBuiltin P H tm b c.args c.argTypes | _ => none
/-- An operation that writes (but no call). -/
noncomputable def wop (P : Program) (H : Heap) (tm : Tr Value) (op : Op) : Option (Value × Heap) :=
  match op with
  | .alloc e => wAlloc P H e
  | .box e x => wop1 tm x (wBox H e)
  | .buildSlice t n ps => opBuildS P H tm t n ps
  | .store t a x => wop2 tm a x (opStore P H t)
  | .convert s d x => wop1 tm x (wConv2 P H s d)
  | .makeSlice t l c => wop2 tm l c (wMakeS P H t)
  | .call c => opWCall P H tm c
  | _ => none
theorem wop_ok {P : Program} {base : Bas} {N : Nat} {φ : Emb} {H : Heap} {w : World} {tm : Tr Value} {a : Act} (hH : HR base φ H w) (hT : TR N φ tm a) {o : Oper} {r : Value × Heap} (h : wop P H tm o.op = some r) : OWk P base φ H w a.eval o r.1 r.2 := by
  obtain ⟨dst, op, ty, pos, after, guard⟩ := o
  simp only at h
  cases op <;> simp only [wop] at h <;> try (cases h; done)
  case alloc e =>
    refine (wAlloc_ok hH h).op ?_
    simp only [execOp, Sem.run_bind]
    rfl
  case box e x =>
    obtain ⟨v, hv, h⟩ := wop1_some h
    refine (wBox_ok hH (hT.ev hv) h).op ?_
    simp only [execOp, Sem.run_bind]
    rfl
  case buildSlice t n ps =>
    unfold opBuildS at h
    split at h <;> try (cases h; done)
    rename_i l hl
    obtain ⟨ps⟩ := ps
    refine (wBuildS_ok hH (hT.evP hl) h).op ?_
    simp only [execOp, Sem.run_bind]
    simp
  case store t x y =>
    obtain ⟨v, u, hv, hu, h⟩ := wop2_some h
    unfold opStore at h
    split at h <;> try (cases h; done)
    rename_i H' hw
    injection h with h; subst h
    obtain ⟨w', h1, h2, h3⟩ := wStore_ok hH (hT.ev hv) (hT.ev hu) hw
    refine ⟨φ, undef, w', .skip, Ext.refl φ, h1, h2, .tuple [] [] rfl (by simp), ?_, .inr ⟨rfl, rfl⟩⟩
    simp only [execOp, Sem.run_bind, h3]
    rfl
  case convert s d x =>
    obtain ⟨v, hv, h⟩ := wop1_some h
    refine (wConv2_ok hH (hT.ev hv) h).op ?_
    simp only [execOp, Sem.run_bind]
    rfl
  case makeSlice t l c =>
    obtain ⟨v, u, hv, hu, h⟩ := wop2_some h
    refine (wMakeS_ok hH (hT.ev hv) (hT.ev hu) h).op ?_
    simp only [execOp, Sem.run_bind]
    rfl
  case call c =>
    obtain ⟨callee, ⟨args⟩, ⟨ts⟩⟩ := c
    unfold opWCall at h
    split at h <;> try (cases h; done)
    rename_i b hb
    simp only at hb
    subst hb
    unfold opWBuiltin at h
    split at h <;> try (cases h; done)
    · split at h <;> try (cases h; done)
      rename_i s x hx
      split at h <;> try (cases h; done)
      rename_i t u ht
      simp only at hx ht
      subst hx; subst ht
      obtain ⟨v, y, hv, hu, h⟩ := wop2_some h
      refine (wAppend2_ok (ty := ty) hH (hT.ev hv) (hT.ev hu) h).op ?_
      simp [execOp, resolve, invoke, builtin]
    · split at h <;> try (cases h; done)
      rename_i s x hx
      split at h <;> try (cases h; done)
      rename_i t u ht
      simp only at hx ht
      subst hx; subst ht
      obtain ⟨v, y, hv, hu, h⟩ := wop2_some h
      refine (wCopy_ok (ty := ty) (u := u) hH (hT.ev hv) (hT.ev hu) h).op ?_
      simp [execOp, resolve, invoke, builtin]
    · split at h <;> try (cases h; done)
      rename_i s x hx
      split at h <;> try (cases h; done)
      rename_i t u ht
      simp only at hx ht
      subst hx; subst ht
      obtain ⟨v, y, hv, hu, h⟩ := wop2_some h
      refine (wStr_ok (ty := ty) (it := u) hH (hT.ev hv) (hT.ev hu) h).op ?_
      simp [execOp, resolve, invoke, builtin]
    · split at h <;> try (cases h; done)
      rename_i x hx
      split at h <;> try (cases h; done)
      rename_i t ht
      simp only at hx ht
      subst hx; subst ht
      obtain ⟨v, hv, h⟩ := wop1_some h
      refine (wClear_ok (ty := ty) hH (hT.ev hv) h).op ?_
      simp [execOp, resolve, invoke, builtin]
end Go.Ev
namespace Go.Ev
open Go
set_option linter.unusedVariables false
set_option linter.unusedSimpArgs false
/- A region that draws its order: reads are taken first, then what writes, in the one order that is left, and last a tail that waits for all of them. S: what the reads need; it is owed behind each operation of the head alone. -/
section
variable {P : Program} {ops : Array Oper} {Q : Exit → Act → World → Prop} {md : Region.Mode} {S : World → Prop}
def wpAnyT (P : Program) (md : Region.Mode) (ops : Array Oper) (Q : Exit → Act → World → Prop) (S : World → Prop) (n : Nat) : Nat → Array Bool → Act → World → Prop
  | 0, listed, a, w => Region.ready md ops listed = [] ∧ Q .normal a w
  | f + 1, listed, a, w => (Region.ready md ops listed = [] → Q .normal a w) ∧
    ∀ i ∈ Region.ready md ops listed, wpOp P ops Q i (fun a' w' => (i < n → S w') ∧ wpAnyT P md ops Q S n f (listed.setIfInBounds i true) a' w') a w
theorem wpAny_of_T {n : Nat} : ∀ (fuel : Nat) (listed : Array Bool) (a : Act) (w : World), wpAnyT P md ops Q S n fuel listed a w → wpAny P md ops Q fuel listed a w
  | 0, _, _, _, h => h
  | fuel + 1, _, _, _, h => ⟨h.1, fun i hi => wpOp_mono (fun a' w' h' => wpAny_of_T fuel _ a' w' h'.2) (h.2 i hi)⟩
theorem wpAnyT_first {n i : Nat} {oi : Oper} {v : Value} (hi : ops[i]? = some oi) (hsel : ∀ (j : Nat) (o : Oper) cs b, ops[j]? = some o → o.op ≠ .select cs b)
    (hQ : ∀ c a w, Q (.panic c) (a.put oi.dst v) w → Q (.panic c) a w) (hs : Region.sinkB md ops n = true) (hc : Region.chainB md ops n = true) (hn : n < ops.size) (hin : i < n) :
    ∀ (fuel : Nat) (listed : Array Bool) (a : Act) (w : World), HeadInv md ops n listed →
      (∀ j oj, ops[j]? = some oj → j ≠ i → listed.getD j true = false → (∀ e ∈ oj.after, Region.binds md e = true → e.on ≠ i) → oi.apart ops oj = true) →
      i ∈ Region.ready md ops listed → YieldsIf P ops S oi v a → S w →
      wpAnyT P md ops Q S n fuel (listed.setIfInBounds i true) (a.put oi.dst v) w → wpAnyT P md ops Q S n (fuel + 1) listed a w := by
  intro fuel
  induction fuel with
  | zero =>
    intro listed a w _ _ hr hy hS H
    refine ⟨fun h => (by rw [h] at hr; cases hr), fun j hj => ?_⟩
    by_cases hji : j = i
    · subst hji; exact hy.wpOp hi hS ⟨fun _ => hS, H⟩
    · have := ready_mono hj hji
      rw [H.1] at this
      cases this
  | succ fuel ih =>
    intro listed a w inv hfree hr hy hS H
    refine ⟨fun h => (by rw [h] at hr; cases hr), fun j hj => ?_⟩
    have hjn : j < n := by
      rcases Nat.lt_or_ge j n with h | h
      · exact h
      · exact absurd hj (tail_waits hs hc hn inv _ i rfl hin (mem_ready.1 hr).1 j h)
    by_cases hji : j = i
    · subst hji; exact hy.wpOp hi hS ⟨fun _ => hS, H⟩
    · have h1 := H.2 j (ready_mono hj hji)
      obtain ⟨hjun, oj, hoj, hall⟩ := mem_ready.1 hj
      have hnot : ∀ e ∈ oj.after, Region.binds md e = true → e.on ≠ i := fun e he hb heq => by
        have h1 := hall e he hb
        rw [heq, getD_both (mem_ready.1 hr).1] at h1
        cases h1
      have h2 := wpOp_putIf hoj (hfree j oj hoj hji hjun hnot) (fun cs b => hsel i oi cs b hi) (fun cs b => hsel j oj cs b hoj) hQ hy h1
      have hfree' : ∀ k ok, ops[k]? = some ok → k ≠ i → (listed.setIfInBounds j true).getD k true = false →
          (∀ e ∈ ok.after, Region.binds md e = true → e.on ≠ i) → oi.apart ops ok = true := fun k ok hk hki hun hno => by
        refine hfree k ok hk hki ?_ hno
        by_cases hjk : j = k
        · subst hjk; exact hjun
        · rw [getD_set_ne true hjk] at hun; exact hun
      refine wpOp_mono (fun a' w' h3 => ⟨fun _ => h3.2.1 hjn, ih (listed.setIfInBounds j true) a' w' (inv.set hj hjn) hfree' (ready_mono hr (Ne.symm hji)) h3.1 (h3.2.1 hjn) ?_⟩) h2
      rw [Array.setIfInBounds_comm _ _ hji]
      exact h3.2.2
theorem wpAnyT_of_seq {n : Nat} : ∀ (l : List Oper) (k : Nat) (listed : Array Bool) (a : Act) (w : World), n ≤ k → (∀ j, l[j]? = ops[k + j]?) →
    Region.seqB md ops l.length k listed = true → wpList P ops Q l a w → wpAnyT P md ops Q S n l.length listed a w
  | [], _, _, _, _, _, _, hB, h => ⟨by simpa [Region.seqB] using hB, h⟩
  | o :: l, k, listed, a, w, hnk, hl, hB, h => by
    have h0 : ops[k]? = some o := by simpa using (hl 0).symm
    simp only [List.length_cons, Region.seqB, Bool.and_eq_true, decide_eq_true_eq] at hB
    refine ⟨fun h1 => (by rw [hB.1] at h1; cases h1), fun i hi => ?_⟩
    rw [hB.1] at hi
    have hik : i = k := by simpa using hi
    subst hik
    have hw : wpOp P ops Q i (wpList P ops Q l) a w := by unfold wpOp; simp only [h0]; exact h
    exact wpOp_mono (fun a' w' h' => ⟨fun hlt => absurd hlt (by omega), wpAnyT_of_seq l (i + 1) _ a' w' (by omega) (fun j => by have := hl (j + 1); simpa [Nat.add_assoc, Nat.add_comm 1 j] using this) hB.2 h'⟩) hw
/-- The order in which the head is walked: an operation, and whether it writes. -/
def planB (md : Region.Mode) (ops : Array Oper) (n g : Nat) : List (Nat × Bool) → Array Bool → Bool
  | [], listed => Region.seqB md ops g n listed
  | (i, b) :: t, listed => decide (i < n) && (Region.ready md ops listed).contains i && (if b then decide (Region.ready md ops listed = [i]) else Region.free md ops listed i) && planB md ops n g t (listed.setIfInBounds i true)
def wpPlan (P : Program) (ops : Array Oper) (Q : Exit → Act → World → Prop) (S : World → Prop) (L : Act → World → Prop) : List (Nat × Bool) → Act → World → Prop
  | [], a, w => L a w
  | (i, false) :: t, a, w => ∃ o v, ops[i]? = some o ∧ YieldsIf P ops S o v a ∧ wpPlan P ops Q S L t (a.put o.dst v) w
  | (i, true) :: t, a, w => wpOp P ops Q i (fun a' w' => S w' ∧ wpPlan P ops Q S L t a' w') a w
theorem wpAnyT_plan {n : Nat} {tl : List Oper} (hsel : Region.noSelect ops = true) (hs : Region.sinkB md ops n = true) (hc : Region.chainB md ops n = true) (hn : n < ops.size) (hQ : ∀ c a d v w, Q (.panic c) (Act.put a d v) w → Q (.panic c) a w) (htl : ∀ j, tl[j]? = ops[n + j]?) :
    ∀ (plan : List (Nat × Bool)) (listed : Array Bool) (a : Act) (w : World), HeadInv md ops n listed → planB md ops n tl.length plan listed = true → S w →
      wpPlan P ops Q S (fun a w => wpList P ops Q tl a w) plan a w → wpAnyT P md ops Q S n (plan.length + tl.length) listed a w
  | [], listed, a, w, inv, hB, hS, h => by
    rw [List.length_nil, Nat.zero_add]
    exact wpAnyT_of_seq tl n listed a w (Nat.le_refl _) htl hB h
  | (i, false) :: t, listed, a, w, inv, hB, hS, h => by
    simp only [planB, Bool.and_eq_true, decide_eq_true_eq] at hB
    obtain ⟨⟨⟨hin, hr⟩, hf⟩, hB'⟩ := hB
    obtain ⟨o, v, ho, hy, hk⟩ := h
    have hr' : i ∈ Region.ready md ops listed := by simpa using hr
    rw [List.length_cons, show t.length + 1 + tl.length = (t.length + tl.length) + 1 by omega]
    exact wpAnyT_first ho (Region.noSelect_spec hsel) (fun c a w h => hQ c a _ _ w h) hs hc hn hin _ listed a w inv (Region.free_spec ho hf) hr' hy hS
      (wpAnyT_plan hsel hs hc hn hQ htl t _ _ w (inv.set hr' hin) hB' hS hk)
  | (i, true) :: t, listed, a, w, inv, hB, hS, h => by
    simp only [planB, Bool.and_eq_true, decide_eq_true_eq, if_true] at hB
    obtain ⟨⟨⟨hin, hr⟩, hone⟩, hB'⟩ := hB
    have hr' : i ∈ Region.ready md ops listed := by simpa using hr
    rw [List.length_cons, show t.length + 1 + tl.length = (t.length + tl.length) + 1 by omega]
    refine ⟨fun h1 => (by rw [h1] at hr'; cases hr'), fun j hj => ?_⟩
    rw [hone] at hj
    obtain rfl : j = i := by simpa using hj
    exact wpOp_mono (fun a' w' h' => ⟨fun _ => h'.1, wpAnyT_plan hsel hs hc hn hQ htl t _ a' w' (inv.set hr' hin) hB' h'.1 h'.2⟩) h
def planTailB (md : Region.Mode) (ops : Array Oper) (n : Nat) (plan : List (Nat × Bool)) : Bool :=
  Region.noSelect ops && decide (n < ops.size) && decide (plan.length = n) && Region.sinkB md ops n && Region.chainB md ops n && planB md ops n (ops.size - n) plan (Array.replicate ops.size false)
theorem wp_region_plan {id : Nat} {a : Act} {w : World} {l : List Oper} (n : Nat) (plan : List (Nat × Bool)) (S : World → Prop) (hm : P.follows .mixedOrders = true) (hB : planTailB .any l.toArray n plan = true) (hQ : ∀ c a d v w, Q (.panic c) (Act.put a d v) w → Q (.panic c) a w) (hS : S w.drew)
    (h : wpPlan P l.toArray Q S (fun a' w' => wpList P l.toArray Q (l.drop n) a' w') plan a w.drew) : (Code.region id l.toArray true).wp P Q a w := by
  simp only [planTailB, Bool.and_eq_true, decide_eq_true_eq] at hB
  obtain ⟨⟨⟨⟨⟨hsel, hn⟩, hpl⟩, hs⟩, hc⟩, hp⟩ := hB
  have hn' : n < l.length := by simpa using hn
  have hdl : (l.drop n).length = l.toArray.size - n := by simp
  have inv0 : HeadInv .any l.toArray n (Array.replicate l.toArray.size false) :=
    ⟨by simp, fun j oj _ hl => (by rw [getD_replicate_false] at hl; cases hl), fun t _ ht => getD_in (by simpa using ht) (getD_replicate_false _ _)⟩
  have H := wpAnyT_plan (md := .any) (tl := l.drop n) hsel hs hc hn hQ (fun j => by simp [List.getElem?_drop]) plan _ a w.drew inv0 (by rw [hdl]; exact hp) hS h
  refine wp_region_any hm ?_
  have H2 := wpAny_of_T _ _ _ _ H
  rw [hdl, hpl, show n + (l.toArray.size - n) = l.toArray.size by omega] at H2
  exact H2
theorem wpPlan_read {L : Act → World → Prop} {i : Nat} {o : Oper} {t : List (Nat × Bool)} {a : Act} {w : World} {v : Value} (ho : ops[i]? = some o) (hg : o.guard = none) (hy : ∀ w', S w' → (execOp a.eval o).run P w' = .ok (.value v) w')
    (h : ∀ K : Act → Prop, (∀ a, wpPlan P ops Q S L t a w → K a) → K (a.put o.dst v)) : wpPlan P ops Q S L ((i, false) :: t) a w :=
  ⟨o, v, ho, .inl ⟨by simp [Region.wanted, hg], hy⟩, h _ fun _ h => h⟩
theorem wpPlan_write {L : Act → World → Prop} {i : Nat} {o : Oper} {t : List (Nat × Bool)} {a : Act} {w : World} (ho : ops[i]? = some o)
    (h : ∀ K : Act → World → Prop, Shut (∀ a w, S w → wpPlan P ops Q S L t a w → K a w) → if Region.wanted o (yielded ops a.tmps) = true then Oper.wp P o a w K Q else K (a.put o.dst undef) w) : wpPlan P ops Q S L ((i, true) :: t) a w :=
  wpOp_step ho (fun K hK => h K (fun a w hS hW => hK a w ⟨hS, hW⟩))
end

/- As Held, for a region in which two that write may come up at once: a plan that parts there. -/
/-- A plan: reads, what writes, and where two that write may come up. -/
inductive Pl where
  | fin
  | rd (i : Nat) (p : Pl)
  | wr (i : Nat) (p : Pl)
  | two (i : Nat) (p : Pl) (j : Nat) (q : Pl)
def Pl.len : Pl → Nat
  | .fin => 0
  | .rd _ p => p.len + 1
  | .wr _ p => p.len + 1
  | .two _ p _ _ => p.len + 1
section
variable {P : Program} {ops : Array Oper} {Q : Exit → Act → World → Prop} {md : Region.Mode} {S : World → Prop}
def plB (md : Region.Mode) (ops : Array Oper) (n g : Nat) : Pl → Array Bool → Bool
  | .fin, listed => Region.seqB md ops g n listed
  | .rd i p, listed => decide (i < n) && (Region.ready md ops listed).contains i && Region.free md ops listed i && plB md ops n g p (listed.setIfInBounds i true)
  | .wr i p, listed => decide (i < n) && decide (Region.ready md ops listed = [i]) && plB md ops n g p (listed.setIfInBounds i true)
  | .two i p j q, listed => decide (i < n) && decide (j < n) && decide (Region.ready md ops listed = [i, j]) && decide (p.len = q.len) && plB md ops n g p (listed.setIfInBounds i true) && plB md ops n g q (listed.setIfInBounds j true)
def wpPl (P : Program) (ops : Array Oper) (Q : Exit → Act → World → Prop) (S : World → Prop) (L : Act → World → Prop) : Pl → Act → World → Prop
  | .fin, a, w => L a w
  | .rd i p, a, w => ∃ o v, ops[i]? = some o ∧ YieldsIf P ops S o v a ∧ wpPl P ops Q S L p (a.put o.dst v) w
  | .wr i p, a, w => wpOp P ops Q i (fun a' w' => S w' ∧ wpPl P ops Q S L p a' w') a w
  | .two i p j q, a, w => wpOp P ops Q i (fun a' w' => S w' ∧ wpPl P ops Q S L p a' w') a w ∧ wpOp P ops Q j (fun a' w' => S w' ∧ wpPl P ops Q S L q a' w') a w
theorem wpAnyT_pl {n : Nat} {tl : List Oper} (hsel : Region.noSelect ops = true) (hs : Region.sinkB md ops n = true) (hc : Region.chainB md ops n = true) (hn : n < ops.size) (hQ : ∀ c a d v w, Q (.panic c) (Act.put a d v) w → Q (.panic c) a w) (htl : ∀ j, tl[j]? = ops[n + j]?) :
    ∀ (plan : Pl) (listed : Array Bool) (a : Act) (w : World), HeadInv md ops n listed → plB md ops n tl.length plan listed = true → S w →
      wpPl P ops Q S (fun a w => wpList P ops Q tl a w) plan a w → wpAnyT P md ops Q S n (plan.len + tl.length) listed a w
  | .fin, listed, a, w, inv, hB, hS, h => by
    rw [Pl.len, Nat.zero_add]
    exact wpAnyT_of_seq tl n listed a w (Nat.le_refl _) htl hB h
  | .rd i t, listed, a, w, inv, hB, hS, h => by
    simp only [plB, Bool.and_eq_true, decide_eq_true_eq] at hB
    obtain ⟨⟨⟨hin, hr⟩, hf⟩, hB'⟩ := hB
    obtain ⟨o, v, ho, hy, hk⟩ := h
    have hr' : i ∈ Region.ready md ops listed := by simpa using hr
    rw [Pl.len, show t.len + 1 + tl.length = (t.len + tl.length) + 1 by omega]
    exact wpAnyT_first ho (Region.noSelect_spec hsel) (fun c a w h => hQ c a _ _ w h) hs hc hn hin _ listed a w inv (Region.free_spec ho hf) hr' hy hS
      (wpAnyT_pl hsel hs hc hn hQ htl t _ _ w (inv.set hr' hin) hB' hS hk)
  | .wr i t, listed, a, w, inv, hB, hS, h => by
    simp only [plB, Bool.and_eq_true, decide_eq_true_eq] at hB
    obtain ⟨⟨hin, hone⟩, hB'⟩ := hB
    have hr' : i ∈ Region.ready md ops listed := by rw [hone]; simp
    rw [Pl.len, show t.len + 1 + tl.length = (t.len + tl.length) + 1 by omega]
    refine ⟨fun h1 => (by rw [h1] at hr'; cases hr'), fun j hj => ?_⟩
    rw [hone] at hj
    obtain rfl : j = i := by simpa using hj
    exact wpOp_mono (fun a' w' h' => ⟨fun _ => h'.1, wpAnyT_pl hsel hs hc hn hQ htl t _ a' w' (inv.set hr' hin) hB' h'.1 h'.2⟩) h
  | .two i p j q, listed, a, w, inv, hB, hS, h => by
    simp only [plB, Bool.and_eq_true, decide_eq_true_eq] at hB
    obtain ⟨⟨⟨⟨⟨hin, hjn⟩, htwo⟩, hlen⟩, hB1⟩, hB2⟩ := hB
    have hri : i ∈ Region.ready md ops listed := by rw [htwo]; simp
    have hrj : j ∈ Region.ready md ops listed := by rw [htwo]; simp
    rw [Pl.len, show p.len + 1 + tl.length = (p.len + tl.length) + 1 by omega]
    refine ⟨fun h1 => (by rw [h1] at hri; cases hri), fun k hk => ?_⟩
    rw [htwo] at hk
    rcases List.mem_cons.1 hk with rfl | hk
    · exact wpOp_mono (fun a' w' h' => ⟨fun _ => h'.1, wpAnyT_pl hsel hs hc hn hQ htl p _ a' w' (inv.set hri hin) hB1 h'.1 h'.2⟩) h.1
    · obtain rfl : k = j := by simpa using hk
      rw [hlen]
      exact wpOp_mono (fun a' w' h' => ⟨fun _ => h'.1, wpAnyT_pl hsel hs hc hn hQ htl q _ a' w' (inv.set hrj hjn) hB2 h'.1 h'.2⟩) h.2
def plTailB (md : Region.Mode) (ops : Array Oper) (n : Nat) (plan : Pl) : Bool :=
  Region.noSelect ops && decide (n < ops.size) && decide (plan.len = n) && Region.sinkB md ops n && Region.chainB md ops n && plB md ops n (ops.size - n) plan (Array.replicate ops.size false)
theorem wp_region_pl {id : Nat} {a : Act} {w : World} {l : List Oper} (n : Nat) (plan : Pl) (S : World → Prop) (hm : P.follows .mixedOrders = true) (hB : plTailB .any l.toArray n plan = true) (hQ : ∀ c a d v w, Q (.panic c) (Act.put a d v) w → Q (.panic c) a w) (hS : S w.drew)
    (h : wpPl P l.toArray Q S (fun a' w' => wpList P l.toArray Q (l.drop n) a' w') plan a w.drew) : (Code.region id l.toArray true).wp P Q a w := by
  simp only [plTailB, Bool.and_eq_true, decide_eq_true_eq] at hB
  obtain ⟨⟨⟨⟨⟨hsel, hn⟩, hpl⟩, hs⟩, hc⟩, hp⟩ := hB
  have hn' : n < l.length := by simpa using hn
  have hdl : (l.drop n).length = l.toArray.size - n := by simp
  have inv0 : HeadInv .any l.toArray n (Array.replicate l.toArray.size false) :=
    ⟨by simp, fun j oj _ hl => (by rw [getD_replicate_false] at hl; cases hl), fun t _ ht => getD_in (by simpa using ht) (getD_replicate_false _ _)⟩
  have H := wpAnyT_pl (md := .any) (tl := l.drop n) hsel hs hc hn hQ (fun j => by simp [List.getElem?_drop]) plan _ a w.drew inv0 (by rw [hdl]; exact hp) hS h
  refine wp_region_any hm ?_
  have H2 := wpAny_of_T _ _ _ _ H
  rw [hdl, hpl, show n + (l.toArray.size - n) = l.toArray.size by omega] at H2
  exact H2
theorem wpPl_read {L : Act → World → Prop} {i : Nat} {o : Oper} {t : Pl} {a : Act} {w : World} {v : Value} (ho : ops[i]? = some o) (hg : o.guard = none) (hy : ∀ w', S w' → (execOp a.eval o).run P w' = .ok (.value v) w')
    (h : ∀ K : Act → Prop, (∀ a, wpPl P ops Q S L t a w → K a) → K (a.put o.dst v)) : wpPl P ops Q S L (.rd i t) a w :=
  ⟨o, v, ho, .inl ⟨by simp [Region.wanted, hg], hy⟩, h _ fun _ h => h⟩
theorem wpPl_readG {L : Act → World → Prop} {i : Nat} {o : Oper} {t : Pl} {a : Act} {w : World} {v : Value} (ho : ops[i]? = some o) (hg : Region.wanted o (yielded ops a.tmps) = true) (hy : ∀ w', S w' → (execOp a.eval o).run P w' = .ok (.value v) w')
    (h : ∀ K : Act → Prop, (∀ a, wpPl P ops Q S L t a w → K a) → K (a.put o.dst v)) : wpPl P ops Q S L (.rd i t) a w :=
  ⟨o, v, ho, .inl ⟨hg, hy⟩, h _ fun _ h => h⟩
theorem wpPl_write {L : Act → World → Prop} {i : Nat} {o : Oper} {t : Pl} {a : Act} {w : World} (ho : ops[i]? = some o)
    (h : ∀ K : Act → World → Prop, Shut (∀ a w, S w → wpPl P ops Q S L t a w → K a w) → if Region.wanted o (yielded ops a.tmps) = true then Oper.wp P o a w K Q else K (a.put o.dst undef) w) : wpPl P ops Q S L (.wr i t) a w :=
  wpOp_step ho (fun K hK => h K (fun a w hS hW => hK a w ⟨hS, hW⟩))
theorem wpPl_two {L : Act → World → Prop} {i j : Nat} {oi oj : Oper} {p q : Pl} {a : Act} {w : World} (hi : ops[i]? = some oi) (hj : ops[j]? = some oj)
    (h1 : ∀ K : Act → World → Prop, Shut (∀ a w, S w → wpPl P ops Q S L p a w → K a w) → if Region.wanted oi (yielded ops a.tmps) = true then Oper.wp P oi a w K Q else K (a.put oi.dst undef) w)
    (h2 : ∀ K : Act → World → Prop, Shut (∀ a w, S w → wpPl P ops Q S L q a w → K a w) → if Region.wanted oj (yielded ops a.tmps) = true then Oper.wp P oj a w K Q else K (a.put oj.dst undef) w) : wpPl P ops Q S L (.two i p j q) a w :=
  ⟨wpOp_step hi (fun K hK => h1 K (fun a w hS hW => hK a w ⟨hS, hW⟩)), wpOp_step hj (fun K hK => h2 K (fun a w hS hW => hK a w ⟨hS, hW⟩))⟩
end

/- As Held3; behind what writes more may be known than ahead of it (T, which says no less than S): so a load of what a call has turned is a read. -/
section
variable {P : Program} {ops : Array Oper} {Q : Exit → Act → World → Prop} {md : Region.Mode} {S : World → Prop}
theorem wpAnyT_weak {S T : World → Prop} (hTS : ∀ w, T w → S w) {n : Nat} : ∀ (fuel : Nat) (listed : Array Bool) (a : Act) (w : World), wpAnyT P md ops Q T n fuel listed a w → wpAnyT P md ops Q S n fuel listed a w
  | 0, _, _, _, h => h
  | fuel + 1, _, _, _, h => ⟨h.1, fun i hi => wpOp_mono (fun a' w' h' => ⟨fun hl => hTS _ (h'.1 hl), wpAnyT_weak hTS fuel _ a' w' h'.2⟩) (h.2 i hi)⟩
def wpPm (P : Program) (ops : Array Oper) (Q : Exit → Act → World → Prop) (L : Act → World → Prop) : Pl → (World → Prop) → Act → World → Prop
  | .fin, _, a, w => L a w
  | .rd i p, S, a, w => ∃ o v, ops[i]? = some o ∧ YieldsIf P ops S o v a ∧ wpPm P ops Q L p S (a.put o.dst v) w
  | .wr i p, S, a, w => wpOp P ops Q i (fun a' w' => ∃ T : World → Prop, (∀ w, T w → S w) ∧ T w' ∧ wpPm P ops Q L p T a' w') a w
  | .two i p j q, S, a, w => wpOp P ops Q i (fun a' w' => ∃ T : World → Prop, (∀ w, T w → S w) ∧ T w' ∧ wpPm P ops Q L p T a' w') a w ∧ wpOp P ops Q j (fun a' w' => ∃ T : World → Prop, (∀ w, T w → S w) ∧ T w' ∧ wpPm P ops Q L q T a' w') a w
theorem wpAnyT_pm {n : Nat} {tl : List Oper} (hsel : Region.noSelect ops = true) (hs : Region.sinkB md ops n = true) (hc : Region.chainB md ops n = true) (hn : n < ops.size) (hQ : ∀ c a d v w, Q (.panic c) (Act.put a d v) w → Q (.panic c) a w) (htl : ∀ j, tl[j]? = ops[n + j]?) :
    ∀ (plan : Pl) (S : World → Prop) (listed : Array Bool) (a : Act) (w : World), HeadInv md ops n listed → plB md ops n tl.length plan listed = true → S w →
      wpPm P ops Q (fun a w => wpList P ops Q tl a w) plan S a w → wpAnyT P md ops Q S n (plan.len + tl.length) listed a w
  | .fin, S, listed, a, w, inv, hB, hS, h => by
    rw [Pl.len, Nat.zero_add]
    exact wpAnyT_of_seq tl n listed a w (Nat.le_refl _) htl hB h
  | .rd i t, S, listed, a, w, inv, hB, hS, h => by
    simp only [plB, Bool.and_eq_true, decide_eq_true_eq] at hB
    obtain ⟨⟨⟨hin, hr⟩, hf⟩, hB'⟩ := hB
    obtain ⟨o, v, ho, hy, hk⟩ := h
    have hr' : i ∈ Region.ready md ops listed := by simpa using hr
    rw [Pl.len, show t.len + 1 + tl.length = (t.len + tl.length) + 1 by omega]
    exact wpAnyT_first ho (Region.noSelect_spec hsel) (fun c a w h => hQ c a _ _ w h) hs hc hn hin _ listed a w inv (Region.free_spec ho hf) hr' hy hS
      (wpAnyT_pm hsel hs hc hn hQ htl t S _ _ w (inv.set hr' hin) hB' hS hk)
  | .wr i t, S, listed, a, w, inv, hB, hS, h => by
    simp only [plB, Bool.and_eq_true, decide_eq_true_eq] at hB
    obtain ⟨⟨hin, hone⟩, hB'⟩ := hB
    have hr' : i ∈ Region.ready md ops listed := by rw [hone]; simp
    rw [Pl.len, show t.len + 1 + tl.length = (t.len + tl.length) + 1 by omega]
    refine ⟨fun h1 => (by rw [h1] at hr'; cases hr'), fun j hj => ?_⟩
    rw [hone] at hj
    obtain rfl : j = i := by simpa using hj
    exact wpOp_mono (fun a' w' ⟨T, hTS, h1, h2⟩ => ⟨fun _ => hTS _ h1, wpAnyT_weak hTS _ _ _ _ (wpAnyT_pm hsel hs hc hn hQ htl t T _ a' w' (inv.set hr' hin) hB' h1 h2)⟩) h
  | .two i p j q, S, listed, a, w, inv, hB, hS, h => by
    simp only [plB, Bool.and_eq_true, decide_eq_true_eq] at hB
    obtain ⟨⟨⟨⟨⟨hin, hjn⟩, htwo⟩, hlen⟩, hB1⟩, hB2⟩ := hB
    have hri : i ∈ Region.ready md ops listed := by rw [htwo]; simp
    have hrj : j ∈ Region.ready md ops listed := by rw [htwo]; simp
    rw [Pl.len, show p.len + 1 + tl.length = (p.len + tl.length) + 1 by omega]
    refine ⟨fun h1 => (by rw [h1] at hri; cases hri), fun k hk => ?_⟩
    rw [htwo] at hk
    rcases List.mem_cons.1 hk with rfl | hk
    · exact wpOp_mono (fun a' w' ⟨T, hTS, h1, h2⟩ => ⟨fun _ => hTS _ h1, wpAnyT_weak hTS _ _ _ _ (wpAnyT_pm hsel hs hc hn hQ htl p T _ a' w' (inv.set hri hin) hB1 h1 h2)⟩) h.1
    · obtain rfl : k = j := by simpa using hk
      rw [hlen]
      exact wpOp_mono (fun a' w' ⟨T, hTS, h1, h2⟩ => ⟨fun _ => hTS _ h1, wpAnyT_weak hTS _ _ _ _ (wpAnyT_pm hsel hs hc hn hQ htl q T _ a' w' (inv.set hrj hjn) hB2 h1 h2)⟩) h.2
theorem wp_region_pm {id : Nat} {a : Act} {w : World} {l : List Oper} (n : Nat) (plan : Pl) (S : World → Prop) (hm : P.follows .mixedOrders = true) (hB : plTailB .any l.toArray n plan = true) (hQ : ∀ c a d v w, Q (.panic c) (Act.put a d v) w → Q (.panic c) a w) (hS : S w.drew)
    (h : wpPm P l.toArray Q (fun a' w' => wpList P l.toArray Q (l.drop n) a' w') plan S a w.drew) : (Code.region id l.toArray true).wp P Q a w := by
  simp only [plTailB, Bool.and_eq_true, decide_eq_true_eq] at hB
  obtain ⟨⟨⟨⟨⟨hsel, hn⟩, hpl⟩, hs⟩, hc⟩, hp⟩ := hB
  have hn' : n < l.length := by simpa using hn
  have hdl : (l.drop n).length = l.toArray.size - n := by simp
  have inv0 : HeadInv .any l.toArray n (Array.replicate l.toArray.size false) :=
    ⟨by simp, fun j oj _ hl => (by rw [getD_replicate_false] at hl; cases hl), fun t _ ht => getD_in (by simpa using ht) (getD_replicate_false _ _)⟩
  have H := wpAnyT_pm (md := .any) (tl := l.drop n) hsel hs hc hn hQ (fun j => by simp [List.getElem?_drop]) plan S _ a w.drew inv0 (by rw [hdl]; exact hp) hS h
  refine wp_region_any hm ?_
  have H2 := wpAny_of_T _ _ _ _ H
  rw [hdl, hpl, show n + (l.toArray.size - n) = l.toArray.size by omega] at H2
  exact H2
theorem wpPm_read {L : Act → World → Prop} {i : Nat} {o : Oper} {t : Pl} {a : Act} {w : World} {v : Value} (ho : ops[i]? = some o) (hg : Region.wanted o (yielded ops a.tmps) = true) (hy : ∀ w', S w' → (execOp a.eval o).run P w' = .ok (.value v) w')
    (h : ∀ K : Act → Prop, (∀ a, wpPm P ops Q L t S a w → K a) → K (a.put o.dst v)) : wpPm P ops Q L (.rd i t) S a w :=
  ⟨o, v, ho, .inl ⟨hg, hy⟩, h _ fun _ h => h⟩
theorem wpPm_skip {L : Act → World → Prop} {i : Nat} {o : Oper} {t : Pl} {a : Act} {w : World} (ho : ops[i]? = some o) (hg : Region.wanted o (yielded ops a.tmps) = false)
    (h : ∀ K : Act → Prop, (∀ a, wpPm P ops Q L t S a w → K a) → K (a.put o.dst undef)) : wpPm P ops Q L (.rd i t) S a w :=
  ⟨o, undef, ho, .inr ⟨hg, rfl⟩, h _ fun _ h => h⟩
theorem wpPm_write {L : Act → World → Prop} {i : Nat} {o : Oper} {t : Pl} {a : Act} {w : World} (ho : ops[i]? = some o)
    (h : ∀ K : Act → World → Prop, Shut (∀ (a : Act) (w : World) (T : World → Prop), (∀ w, T w → S w) → T w → wpPm P ops Q L t T a w → K a w) → if Region.wanted o (yielded ops a.tmps) = true then Oper.wp P o a w K Q else K (a.put o.dst undef) w) : wpPm P ops Q L (.wr i t) S a w :=
  wpOp_step ho (fun K hK => h K (fun a w T hT hS hW => hK a w ⟨T, hT, hS, hW⟩))
theorem wpPm_two {L : Act → World → Prop} {i j : Nat} {oi oj : Oper} {p q : Pl} {a : Act} {w : World} (hi : ops[i]? = some oi) (hj : ops[j]? = some oj)
    (h1 : ∀ K : Act → World → Prop, Shut (∀ (a : Act) (w : World) (T : World → Prop), (∀ w, T w → S w) → T w → wpPm P ops Q L p T a w → K a w) → if Region.wanted oi (yielded ops a.tmps) = true then Oper.wp P oi a w K Q else K (a.put oi.dst undef) w)
    (h2 : ∀ K : Act → World → Prop, Shut (∀ (a : Act) (w : World) (T : World → Prop), (∀ w, T w → S w) → T w → wpPm P ops Q L q T a w → K a w) → if Region.wanted oj (yielded ops a.tmps) = true then Oper.wp P oj a w K Q else K (a.put oj.dst undef) w) : wpPm P ops Q L (.two i p j q) S a w :=
  ⟨wpOp_step hi (fun K hK => h1 K (fun a w T hT hS hW => hK a w ⟨T, hT, hS, hW⟩)), wpOp_step hj (fun K hK => h2 K (fun a w T hT hS hW => hK a w ⟨T, hT, hS, hW⟩))⟩
end

/- As Held4, for a region without an operation that waits for all others: the plan holds all of them. -/
section
variable {P : Program} {ops : Array Oper} {Q : Exit → Act → World → Prop} {md : Region.Mode} {S : World → Prop}
theorem wpAnyE_first {n i : Nat} {oi : Oper} {v : Value} (hi : ops[i]? = some oi) (hsel : ∀ (j : Nat) (o : Oper) cs b, ops[j]? = some o → o.op ≠ .select cs b)
    (hQ : ∀ c a w, Q (.panic c) (a.put oi.dst v) w → Q (.panic c) a w) (hn : n = ops.size) :
    ∀ (fuel : Nat) (listed : Array Bool) (a : Act) (w : World), HeadInv md ops n listed →
      (∀ j oj, ops[j]? = some oj → j ≠ i → listed.getD j true = false → (∀ e ∈ oj.after, Region.binds md e = true → e.on ≠ i) → oi.apart ops oj = true) →
      i ∈ Region.ready md ops listed → YieldsIf P ops S oi v a → S w →
      wpAnyT P md ops Q S n fuel (listed.setIfInBounds i true) (a.put oi.dst v) w → wpAnyT P md ops Q S n (fuel + 1) listed a w := by
  intro fuel
  induction fuel with
  | zero =>
    intro listed a w _ _ hr hy hS H
    refine ⟨fun h => (by rw [h] at hr; cases hr), fun j hj => ?_⟩
    by_cases hji : j = i
    · subst hji; exact hy.wpOp hi hS ⟨fun _ => hS, H⟩
    · have := ready_mono hj hji
      rw [H.1] at this
      cases this
  | succ fuel ih =>
    intro listed a w inv hfree hr hy hS H
    refine ⟨fun h => (by rw [h] at hr; cases hr), fun j hj => ?_⟩
    have hjn : j < n := by
      obtain ⟨_, oj, hoj, _⟩ := mem_ready.1 hj
      rw [hn]; exact (Array.getElem?_eq_some_iff.1 hoj).1
    by_cases hji : j = i
    · subst hji; exact hy.wpOp hi hS ⟨fun _ => hS, H⟩
    · have h1 := H.2 j (ready_mono hj hji)
      obtain ⟨hjun, oj, hoj, hall⟩ := mem_ready.1 hj
      have hnot : ∀ e ∈ oj.after, Region.binds md e = true → e.on ≠ i := fun e he hb heq => by
        have h1 := hall e he hb
        rw [heq, getD_both (mem_ready.1 hr).1] at h1
        cases h1
      have h2 := wpOp_putIf hoj (hfree j oj hoj hji hjun hnot) (fun cs b => hsel i oi cs b hi) (fun cs b => hsel j oj cs b hoj) hQ hy h1
      have hfree' : ∀ k ok, ops[k]? = some ok → k ≠ i → (listed.setIfInBounds j true).getD k true = false →
          (∀ e ∈ ok.after, Region.binds md e = true → e.on ≠ i) → oi.apart ops ok = true := fun k ok hk hki hun hno => by
        refine hfree k ok hk hki ?_ hno
        by_cases hjk : j = k
        · subst hjk; exact hjun
        · rw [getD_set_ne true hjk] at hun; exact hun
      refine wpOp_mono (fun a' w' h3 => ⟨fun _ => h3.2.1 hjn, ih (listed.setIfInBounds j true) a' w' (inv.set hj hjn) hfree' (ready_mono hr (Ne.symm hji)) h3.1 (h3.2.1 hjn) ?_⟩) h2
      rw [Array.setIfInBounds_comm _ _ hji]
      exact h3.2.2
theorem wpAnyE_pm {n : Nat} {tl : List Oper} (hsel : Region.noSelect ops = true) (hn : n = ops.size) (hQ : ∀ c a d v w, Q (.panic c) (Act.put a d v) w → Q (.panic c) a w) (htl : ∀ j, tl[j]? = ops[n + j]?) :
    ∀ (plan : Pl) (S : World → Prop) (listed : Array Bool) (a : Act) (w : World), HeadInv md ops n listed → plB md ops n tl.length plan listed = true → S w →
      wpPm P ops Q (fun a w => wpList P ops Q tl a w) plan S a w → wpAnyT P md ops Q S n (plan.len + tl.length) listed a w
  | .fin, S, listed, a, w, inv, hB, hS, h => by
    rw [Pl.len, Nat.zero_add]
    exact wpAnyT_of_seq tl n listed a w (Nat.le_refl _) htl hB h
  | .rd i t, S, listed, a, w, inv, hB, hS, h => by
    simp only [plB, Bool.and_eq_true, decide_eq_true_eq] at hB
    obtain ⟨⟨⟨hin, hr⟩, hf⟩, hB'⟩ := hB
    obtain ⟨o, v, ho, hy, hk⟩ := h
    have hr' : i ∈ Region.ready md ops listed := by simpa using hr
    rw [Pl.len, show t.len + 1 + tl.length = (t.len + tl.length) + 1 by omega]
    exact wpAnyE_first ho (Region.noSelect_spec hsel) (fun c a w h => hQ c a _ _ w h) hn _ listed a w inv (Region.free_spec ho hf) hr' hy hS
      (wpAnyE_pm hsel hn hQ htl t S _ _ w (inv.set hr' hin) hB' hS hk)
  | .wr i t, S, listed, a, w, inv, hB, hS, h => by
    simp only [plB, Bool.and_eq_true, decide_eq_true_eq] at hB
    obtain ⟨⟨hin, hone⟩, hB'⟩ := hB
    have hr' : i ∈ Region.ready md ops listed := by rw [hone]; simp
    rw [Pl.len, show t.len + 1 + tl.length = (t.len + tl.length) + 1 by omega]
    refine ⟨fun h1 => (by rw [h1] at hr'; cases hr'), fun j hj => ?_⟩
    rw [hone] at hj
    obtain rfl : j = i := by simpa using hj
    exact wpOp_mono (fun a' w' ⟨T, hTS, h1, h2⟩ => ⟨fun _ => hTS _ h1, wpAnyT_weak hTS _ _ _ _ (wpAnyE_pm hsel hn hQ htl t T _ a' w' (inv.set hr' hin) hB' h1 h2)⟩) h
  | .two i p j q, S, listed, a, w, inv, hB, hS, h => by
    simp only [plB, Bool.and_eq_true, decide_eq_true_eq] at hB
    obtain ⟨⟨⟨⟨⟨hin, hjn⟩, htwo⟩, hlen⟩, hB1⟩, hB2⟩ := hB
    have hri : i ∈ Region.ready md ops listed := by rw [htwo]; simp
    have hrj : j ∈ Region.ready md ops listed := by rw [htwo]; simp
    rw [Pl.len, show p.len + 1 + tl.length = (p.len + tl.length) + 1 by omega]
    refine ⟨fun h1 => (by rw [h1] at hri; cases hri), fun k hk => ?_⟩
    rw [htwo] at hk
    rcases List.mem_cons.1 hk with rfl | hk
    · exact wpOp_mono (fun a' w' ⟨T, hTS, h1, h2⟩ => ⟨fun _ => hTS _ h1, wpAnyT_weak hTS _ _ _ _ (wpAnyE_pm hsel hn hQ htl p T _ a' w' (inv.set hri hin) hB1 h1 h2)⟩) h.1
    · obtain rfl : k = j := by simpa using hk
      rw [hlen]
      exact wpOp_mono (fun a' w' ⟨T, hTS, h1, h2⟩ => ⟨fun _ => hTS _ h1, wpAnyT_weak hTS _ _ _ _ (wpAnyE_pm hsel hn hQ htl q T _ a' w' (inv.set hrj hjn) hB2 h1 h2)⟩) h.2
/-- A region without a tail: all its operations are in the plan. -/
def plAllB (md : Region.Mode) (ops : Array Oper) (plan : Pl) : Bool :=
  Region.noSelect ops && decide (plan.len = ops.size) && plB md ops ops.size 0 plan (Array.replicate ops.size false)
theorem wp_region_pe {id : Nat} {a : Act} {w : World} {l : List Oper} (plan : Pl) (S : World → Prop) (hm : P.follows .mixedOrders = true) (hB : plAllB .any l.toArray plan = true) (hQ : ∀ c a d v w, Q (.panic c) (Act.put a d v) w → Q (.panic c) a w) (hS : S w.drew)
    (h : wpPm P l.toArray Q (fun a' w' => wpList P l.toArray Q [] a' w') plan S a w.drew) : (Code.region id l.toArray true).wp P Q a w := by
  simp only [plAllB, Bool.and_eq_true, decide_eq_true_eq] at hB
  obtain ⟨⟨hsel, hpl⟩, hp⟩ := hB
  have inv0 : HeadInv .any l.toArray l.toArray.size (Array.replicate l.toArray.size false) :=
    ⟨by simp, fun j oj _ hl => (by rw [getD_replicate_false] at hl; cases hl), fun t _ ht => getD_in (by simpa using ht) (getD_replicate_false _ _)⟩
  have H := wpAnyE_pm (md := .any) (tl := []) hsel rfl hQ (fun j => by simp) plan S _ a w.drew inv0 hp hS h
  refine wp_region_any hm ?_
  have H2 := wpAny_of_T _ _ _ _ H
  rw [List.length_nil, Nat.add_zero, hpl] at H2
  exact H2
end

end Go.Ev
