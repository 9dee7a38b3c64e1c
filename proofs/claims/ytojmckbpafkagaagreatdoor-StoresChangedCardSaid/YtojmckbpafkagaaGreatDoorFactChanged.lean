/- The closed facts of the row storesChanged, one by one. -/
import Derived.Test.YtojmckbpafkagaaGreatDoorLiftL
set_option linter.unusedVariables false
set_option linter.unusedSimpArgs false
namespace Go.Proofs.YtojmckbpafkagaaGreatDoor
set_option maxRecDepth 100000
theorem and_t {a b : Bool} (ha : a = true) (hb : b = true) : (a && b) = true := by rw [ha, hb]; rfl
theorem storesChanged_fact0 : (Rows.storesChangedRow.wf (OpenSpec.ofChange Rows.storesChangedSpec)) = true := by kernel_rfl
theorem storesChanged_fact1 : (laidOutB Tryz.prog) = true := by kernel_rfl
theorem storesChanged_fact2 : (mapsRowed Tryz.prog) = true := by kernel_rfl
theorem storesChanged_fact3 : (Tryz.f4.params.all (Tryz.prog.readableRec ·)) = true := by kernel_rfl
theorem storesChanged_fact4 : (namedTie Tryz.prog Rows.storesChangedRow.named Rows.storesChangedSpec.vars) = true := by kernel_rfl
theorem storesChanged_fact5 : ((Rows.storesChangedRow.stops == [])) = true := by kernel_rfl
theorem storesChanged_fact6 : ((Tryz.prog.stops == [])) = true := by kernel_rfl
theorem storesChanged_fact7 : ((Rows.storesChangedRow.knobs == [])) = true := by kernel_rfl
theorem storesChanged_fact8 : ((Tryz.prog.stopKnobs == [])) = true := by kernel_rfl
theorem storesChanged_fact9 : ((Rows.storesChangedRow.inPlace == Tryz.prog.inPlace 4)) = true := by kernel_rfl
theorem storesChanged_fact10 : ((Rows.storesChangedRow.unfollowed == Tryz.prog.unfollowed 4)) = true := by kernel_rfl
theorem storesChanged_fact11 : ((Rows.storesChangedRow.recurses == Tryz.prog.recurses 4)) = true := by kernel_rfl
theorem storesChanged_fact12 : ((Rows.storesChangedRow.named == Tryz.prog.varsNamed 4)) = true := by kernel_rfl
theorem storesChanged_fact13 : ((Rows.storesChangedRow.maps == (Tryz.f4.params.toList ++ Rows.storesChangedSpec.plain.varTypes Tryz.prog).any (Tryz.prog.mapsRec ·))) = true := by kernel_rfl
theorem storesChanged_fact14 : ((Rows.storesChangedRow.ifaces == (Tryz.f4.params.toList ++ Rows.storesChangedSpec.plain.varTypes Tryz.prog).any (Tryz.prog.ifacesRec ·))) = true := by kernel_rfl
theorem storesChanged_fact15 : ((Rows.storesChangedRow.mapsOut == Tryz.prog.mapsAmong Tryz.f4.resultTypes.toList)) = true := by kernel_rfl
theorem storesChanged_fact16 : ((Rows.storesChangedRow.loops == (Tryz.f4.params.toList ++ Rows.storesChangedSpec.plain.varTypes Tryz.prog).any (Tryz.prog.loopsFrom ·))) = true := by kernel_rfl
theorem storesChanged_fact17 : ((Rows.storesChangedRow.wideKeys == (Tryz.f4.params.toList ++ Rows.storesChangedSpec.plain.varTypes Tryz.prog ++ Tryz.f4.resultTypes.toList).any (Tryz.prog.wideKeysFrom ·))) = true := by kernel_rfl
theorem storesChanged_fact18 : (Rows.storesChangedSpec.vars.all (Tryz.prog.varReadable ·)) = true := by kernel_rfl
theorem storesChanged_fact19 : (Tryz.f4.resultTypes.all (fun t => Tryz.prog.readableRec t && decide (t < Tryz.prog.types.size))) = true := by kernel_rfl
theorem storesChanged_fact20 : ((Rows.storesChangedRow.ifacesOut == Tryz.f4.resultTypes.toList.any (Tryz.prog.ifacesRec ·))) = true := by kernel_rfl
theorem storesChanged_fact21 : ((Rows.storesChangedRow.loopsOut == Tryz.f4.resultTypes.toList.any (Tryz.prog.loopsFrom ·))) = true := by kernel_rfl
theorem storesChanged_fact22 : ((Rows.storesChangedRow.plainKeys == Tryz.prog.plainKeys)) = true := by kernel_rfl
theorem storesChanged_fact23 : (Rows.storesChangedRow.shortTexts.isNone) = true := by kernel_rfl
theorem storesChanged_fact24 : (Tryz.prog.stopsHeard) = true := by kernel_rfl
theorem storesChanged_fact25 : (Tryz.prog.mayEnter) = true := by kernel_rfl
theorem storesChanged_fact26 : ((Rows.storesChangedRow.lifted == Tryz.prog.liftsFinal)) = true := by kernel_rfl
theorem storesChanged_fact27 : ((Tryz.prog.make == some Rows.storesChangedRow.make)) = true := by kernel_rfl
theorem storesChanged_fact28 : ((Rows.storesChangedRow.kinds == (if Rows.storesChangedRow.domain.isEmpty then [] else Tryz.f4.params.toList.map fun t => match Tryz.prog.underlying t with | some (.int k) => some k | _ => none))) = true := by kernel_rfl
theorem storesChanged_fact29 : ((Rows.storesChangedRow.pinned == Rows.storesChangedRow.pinnedBy)) = true := by kernel_rfl
theorem storesChanged_fact30 : ((Rows.storesChangedRow.veiled == (Tryz.f4.params.toList ++ Rows.storesChangedSpec.plain.varTypes Tryz.prog ++ Tryz.f4.resultTypes.toList).any (Tryz.prog.veiledRec ·))) = true := by kernel_rfl
theorem storesChanged_fact31 : (Rows.storesChangedRow.veiledFits Tryz.prog Tryz.f4.params.toList (Tryz.f4.params.toList ++ Rows.storesChangedSpec.plain.varTypes Tryz.prog ++ Tryz.f4.resultTypes.toList)) = true := by kernel_rfl
theorem storesChanged_facts : joinedFacts Tryz.prog 4 Tryz.f4 Rows.storesChangedSpec Rows.storesChangedRow = true := (and_t (and_t (and_t (and_t (and_t (and_t (and_t (and_t (and_t (and_t (and_t (and_t (and_t (and_t (and_t (and_t (and_t (and_t (and_t (and_t (and_t (and_t (and_t (and_t (and_t (and_t (and_t (and_t (and_t (and_t (and_t storesChanged_fact0 storesChanged_fact1) storesChanged_fact2) storesChanged_fact3) storesChanged_fact4) storesChanged_fact5) storesChanged_fact6) storesChanged_fact7) storesChanged_fact8) storesChanged_fact9) storesChanged_fact10) storesChanged_fact11) storesChanged_fact12) storesChanged_fact13) storesChanged_fact14) storesChanged_fact15) storesChanged_fact16) storesChanged_fact17) storesChanged_fact18) storesChanged_fact19) storesChanged_fact20) storesChanged_fact21) storesChanged_fact22) storesChanged_fact23) storesChanged_fact24) storesChanged_fact25) storesChanged_fact26) storesChanged_fact27) storesChanged_fact28) storesChanged_fact29) storesChanged_fact30) storesChanged_fact31)
end Go.Proofs.YtojmckbpafkagaaGreatDoor
