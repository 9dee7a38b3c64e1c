import Derived.Test.YtojmckbpafkagaaGreatDoorEJ
import Derived.Test.YtojmckbpafkagaaGreatDoorWTab
import Derived.Lib.MakeNoZero
namespace Go.Ev
open Go Go.RowKit
set_option linter.unusedVariables false
set_option linter.unusedSimpArgs false
theorem extF_spec {P : Program} {f : FuncId} {b : Bool} {e : Array Value → Sem Value} (hb : extF P f = some (b, e)) : ∃ fn, P.funcs[f]? = some fn ∧ (fn.name == "internal/abi.NoEscape") = b ∧ Extern.find fn = some e ∧ ∀ args' w, (callFunc f args').run P w = ((e args').run P w).andThen fun v w => .ok (.value v) w := by
  unfold extF at hb
  split at hb <;> try (cases hb; done)
  rename_i fn hf
  split at hb <;> try (cases hb; done)
  rename_i hbody
  split at hb <;> try (cases hb; done)
  rename_i hn
  split at hb <;> try (cases hb; done)
  rename_i hnx
  split at hb <;> try (cases hb; done)
  rename_i e' hfe
  injection hb with hb; injection hb with h1 h2; subst h1; subst h2
  have hn' : ¬ fn.name = "runtime.NumGoroutine" := by simpa using hn
  refine ⟨fn, hf, rfl, hfe, fun args' w => ?_⟩
  simp [callFunc, hf, hn', hbody, hnx, hfe, mark, Sem.run]
open Go.Proofs.YtojmckbpafkagaaGreatDoor in
/-- bytealg.MakeNoZero -/
noncomputable def mnz (args : List Value) (H : Heap) : Option (Value × Heap) := match args with
  | [.int .i64 (.ofNat n)] => match and (Nat.blt 0 n) (Nat.ble n 100000) with
    | true => some (.slice (some ⟨H.next, 0, none⟩) n unk, H.push (.row H.clock 5 1 n .nil))
    | false => none
  | _ => none
theorem mnz_ext : extF Go.Proofs.Tryz.prog 297 = some (false, Extern.BytealgMakeNoZero.makeNoZero #[3] #[27]) := by kernel_rfl
theorem mnz_ok : HkF Go.Proofs.Tryz.prog 297 mnz := by
  intro args H r hr
  unfold mnz at hr
  split at hr <;> try (cases hr; done)
  rename_i n
  split at hr <;> try (cases hr; done)
  rename_i hn
  simp only [Bool.and_eq_true] at hn
  have h1 : 0 < n := Nat.le_of_ble_eq_true hn.1
  have h2 : n ≤ 100000 := Nat.le_of_ble_eq_true hn.2
  injection hr with hr; subst hr
  refine ⟨fun hW => push_am hW (Nat.le_refl _), fun base φ w args' hH ha => .inl ?_⟩
  obtain ⟨v', l, rfl, k1, k2⟩ := ha.inv_cons
  obtain rfl := k2.inv_nil
  cases k1
  obtain ⟨cs, e1, e2, e3⟩ := Lib.run_makeNoZero (P := Go.Proofs.Tryz.prog) w #[3] 27 5 (by kernel_rfl) n (by omega)
  have hm : cs.size ≤ maxLen := e3 (by unfold maxLen; omega)
  obtain ⟨q1, q2, q3, q4⟩ := hH.drew.drew.push (.row H.clock 5 1 n .nil) (.cells cs 5) cs.size (Nat.le_refl _) ⟨cs, (0, 0), rfl, fun j _ => by omega, by rw [if_neg (by omega)]; omega, fun j v _ hv => by rw [Tr.get_nil] at hv; cases hv⟩
  have hF : FR φ φ H H w w.drew.drew := (FR.drew φ H w).trans (Ext.refl φ) (Ext.refl φ) (FR.drew φ H w.drew)
  refine ⟨_, _, _, q1, q2, hF.trans (Ext.refl φ) q1 q3, .slG _ q4 e2, ?_⟩
  obtain ⟨fn, _, _, _, hx⟩ := extF_spec mnz_ext
  rw [hx, show ((⟨[.int .i64 (Int.ofNat n)]⟩ : Array Value)) = #[.int .i64 n] from rfl, e1]; rfl

open Go.Proofs.YtojmckbpafkagaaGreatDoor
/-- words.Of -/
noncomputable def gOf (args : List Value) : Option Value := match args with
  | [.string s] => match Nat.ble s.size 1000 with | true => some (.int .u8 (WP.cls s.data.toList)) | false => none
  | _ => none
theorem gOf_ok : PureF Go.Proofs.Tryz.prog 67 gOf := ⟨fun args w => by kernel_rfl, fun args v w h hJ => by
  unfold gOf at h
  split at h <;> try (cases h; done)
  rename_i s
  split at h <;> try (cases h; done)
  rename_i hs
  injection h with h; subst h
  have hs' := Nat.le_of_ble_eq_true hs
  exact of_any s w (by unfold maxLen; omega) hJ.1⟩
/-- strings.Repeat -/
noncomputable def gRep (args : List Value) : Option Value := match args with
  | [.string s, .int .i64 (.ofNat c)] => match and (Nat.ble c 100000) (Nat.ble (Nat.mul s.size c) 1000000) with | true => some (.string ⟨⟨Lib.repeatL s.data.toList c⟩⟩) | false => none
  | _ => none
theorem gRep_ok : PureF Go.Proofs.Tryz.prog 175 gRep := ⟨fun args w => by kernel_rfl, fun args v w h hJ => by
  unfold gRep at h
  split at h <;> try (cases h; done)
  rename_i s c
  split at h <;> try (cases h; done)
  rename_i hs
  simp only [Bool.and_eq_true] at hs
  injection h with h; subst h
  have h1 := Nat.le_of_ble_eq_true hs.1
  have h2 : s.size * c ≤ 1000000 := Nat.le_of_ble_eq_true hs.2
  exact Go.Proofs.Tryz.strings_Repeat s c w (by omega) (by omega)⟩
noncomputable def hks : HookT := [(67, pureH gOf), (297, mnz), (175, pureH gRep)]
noncomputable def hkOf : Hook := hookL hks
theorem hkOf_ok : HookOk Go.Proofs.Tryz.prog hkOf := hookL_ok fun x hx => by
  simp only [hks, List.mem_cons, List.mem_nil_iff, or_false] at hx
  rcases hx with rfl | rfl | rfl
  · exact gOf_ok.hk
  · exact mnz_ok
  · exact gRep_ok.hk
end Go.Ev
