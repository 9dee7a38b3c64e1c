/- The closed facts of the row storesPut, one by one. -/
import Derived.Test.YtojmckbpafkagaaGreatDoorLiftL
set_option linter.unusedVariables false
set_option linter.unusedSimpArgs false
namespace Go.Proofs.YtojmckbpafkagaaGreatDoor
set_option maxRecDepth 100000
theorem and_t {a b : Bool} (ha : a = true) (hb : b = true) : (a && b) = true := by rw [ha, hb]; rfl
theorem storesPut_fact0 : (Rows.storesPutRow.wf (OpenSpec.ofChange Rows.storesPutSpec)) = true := by kernel_rfl
theorem storesPut_fact1 : (laidOutB Tryz.prog) = true := by kernel_rfl
theorem storesPut_fact2 : (mapsRowed Tryz.prog) = true := by kernel_rfl
theorem storesPut_fact3 : (Tryz.f5.params.all (Tryz.prog.readableRec ·)) = true := by kernel_rfl
theorem storesPut_fact4 : (namedTie Tryz.prog Rows.storesPutRow.named Rows.storesPutSpec.vars) = true := by kernel_rfl
theorem storesPut_fact5 : ((Rows.storesPutRow.stops == [])) = true := by kernel_rfl
theorem storesPut_fact6 : ((Tryz.prog.stops == [])) = true := by kernel_rfl
theorem storesPut_fact7 : ((Rows.storesPutRow.knobs == [])) = true := by kernel_rfl
theorem storesPut_fact8 : ((Tryz.prog.stopKnobs == [])) = true := by kernel_rfl
theorem storesPut_fact9 : ((Rows.storesPutRow.inPlace == Tryz.prog.inPlace 5)) = true := by kernel_rfl
theorem storesPut_fact10 : ((Rows.storesPutRow.unfollowed == Tryz.prog.unfollowed 5)) = true := by kernel_rfl
theorem storesPut_fact11 : ((Rows.storesPutRow.recurses == Tryz.prog.recurses 5)) = true := by kernel_rfl
theorem storesPut_fact12 : ((Rows.storesPutRow.named == Tryz.prog.varsNamed 5)) = true := by kernel_rfl
theorem storesPut_fact13 : ((Rows.storesPutRow.maps == (Tryz.f5.params.toList ++ Rows.storesPutSpec.plain.varTypes Tryz.prog).any (Tryz.prog.mapsRec ·))) = true := by kernel_rfl
theorem storesPut_fact14 : ((Rows.storesPutRow.ifaces == (Tryz.f5.params.toList ++ Rows.storesPutSpec.plain.varTypes Tryz.prog).any (Tryz.prog.ifacesRec ·))) = true := by kernel_rfl
theorem storesPut_fact15 : ((Rows.storesPutRow.mapsOut == Tryz.prog.mapsAmong Tryz.f5.resultTypes.toList)) = true := by kernel_rfl
theorem storesPut_fact16 : ((Rows.storesPutRow.loops == (Tryz.f5.params.toList ++ Rows.storesPutSpec.plain.varTypes Tryz.prog).any (Tryz.prog.loopsFrom ·))) = true := by kernel_rfl
theorem storesPut_fact17 : ((Rows.storesPutRow.wideKeys == (Tryz.f5.params.toList ++ Rows.storesPutSpec.plain.varTypes Tryz.prog ++ Tryz.f5.resultTypes.toList).any (Tryz.prog.wideKeysFrom ·))) = true := by kernel_rfl
theorem storesPut_fact18 : (Rows.storesPutSpec.vars.all (Tryz.prog.varReadable ·)) = true := by kernel_rfl
theorem storesPut_fact19 : (Tryz.f5.resultTypes.all (fun t => Tryz.prog.readableRec t && decide (t < Tryz.prog.types.size))) = true := by kernel_rfl
theorem storesPut_fact20 : ((Rows.storesPutRow.ifacesOut == Tryz.f5.resultTypes.toList.any (Tryz.prog.ifacesRec ·))) = true := by kernel_rfl
theorem storesPut_fact21 : ((Rows.storesPutRow.loopsOut == Tryz.f5.resultTypes.toList.any (Tryz.prog.loopsFrom ·))) = true := by kernel_rfl
theorem storesPut_fact22 : ((Rows.storesPutRow.plainKeys == Tryz.prog.plainKeys)) = true := by kernel_rfl
theorem storesPut_fact23 : (Rows.storesPutRow.shortTexts.isNone) = true := by kernel_rfl
theorem storesPut_fact24 : (Tryz.prog.stopsHeard) = true := by kernel_rfl
theorem storesPut_fact25 : (Tryz.prog.mayEnter) = true := by kernel_rfl
theorem storesPut_fact26 : ((Rows.storesPutRow.lifted == Tryz.prog.liftsFinal)) = true := by kernel_rfl
theorem storesPut_fact27 : ((Tryz.prog.make == some Rows.storesPutRow.make)) = true := by kernel_rfl
theorem storesPut_fact28 : ((Rows.storesPutRow.kinds == (if Rows.storesPutRow.domain.isEmpty then [] else Tryz.f5.params.toList.map fun t => match Tryz.prog.underlying t with | some (.int k) => some k | _ => none))) = true := by kernel_rfl
theorem storesPut_fact29 : ((Rows.storesPutRow.pinned == Rows.storesPutRow.pinnedBy)) = true := by kernel_rfl
theorem storesPut_fact30 : ((Rows.storesPutRow.veiled == (Tryz.f5.params.toList ++ Rows.storesPutSpec.plain.varTypes Tryz.prog ++ Tryz.f5.resultTypes.toList).any (Tryz.prog.veiledRec ·))) = true := by kernel_rfl
theorem storesPut_fact31 : (Rows.storesPutRow.veiledFits Tryz.prog Tryz.f5.params.toList (Tryz.f5.params.toList ++ Rows.storesPutSpec.plain.varTypes Tryz.prog ++ Tryz.f5.resultTypes.toList)) = true := by kernel_rfl
theorem storesPut_facts : joinedFacts Tryz.prog 5 Tryz.f5 Rows.storesPutSpec Rows.storesPutRow = true := (and_t (and_t (and_t (and_t (and_t (and_t (and_t (and_t (and_t (and_t (and_t (and_t (and_t (and_t (and_t (and_t (and_t (and_t (and_t (and_t (and_t (and_t (and_t (and_t (and_t (and_t (and_t (and_t (and_t (and_t (and_t storesPut_fact0 storesPut_fact1) storesPut_fact2) storesPut_fact3) storesPut_fact4) storesPut_fact5) storesPut_fact6) storesPut_fact7) storesPut_fact8) storesPut_fact9) storesPut_fact10) storesPut_fact11) storesPut_fact12) storesPut_fact13) storesPut_fact14) storesPut_fact15) storesPut_fact16) storesPut_fact17) storesPut_fact18) storesPut_fact19) storesPut_fact20) storesPut_fact21) storesPut_fact22) storesPut_fact23) storesPut_fact24) storesPut_fact25) storesPut_fact26) storesPut_fact27) storesPut_fact28) storesPut_fact29) storesPut_fact30) storesPut_fact31)
end Go.Proofs.YtojmckbpafkagaaGreatDoor
