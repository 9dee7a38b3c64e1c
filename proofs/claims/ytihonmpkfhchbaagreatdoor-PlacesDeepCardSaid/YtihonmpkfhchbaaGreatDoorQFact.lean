/- The closed facts of the row placesDeep, one by one. -/
import Derived.Test.YtihonmpkfhchbaaGreatDoorLiftL
set_option linter.unusedVariables false
set_option linter.unusedSimpArgs false
namespace Go.Proofs.YtihonmpkfhchbaaGreatDoor
set_option maxRecDepth 100000
theorem and_t {a b : Bool} (ha : a = true) (hb : b = true) : (a && b) = true := by rw [ha, hb]; rfl
theorem placesDeep_fact0 : (Rows.placesDeepRow.wf (OpenSpec.ofChange Rows.placesDeepSpec)) = true := by kernel_rfl
theorem placesDeep_fact1 : (laidOutB Tryz.prog) = true := by kernel_rfl
theorem placesDeep_fact2 : (mapsRowed Tryz.prog) = true := by kernel_rfl
theorem placesDeep_fact3 : (Tryz.f3.params.all (Tryz.prog.readableRec ·)) = true := by kernel_rfl
theorem placesDeep_fact4 : (namedTie Tryz.prog Rows.placesDeepRow.named Rows.placesDeepSpec.vars) = true := by kernel_rfl
theorem placesDeep_fact5 : ((Rows.placesDeepRow.stops == [])) = true := by kernel_rfl
theorem placesDeep_fact6 : ((Tryz.prog.stops == [])) = true := by kernel_rfl
theorem placesDeep_fact7 : ((Rows.placesDeepRow.knobs == [])) = true := by kernel_rfl
theorem placesDeep_fact8 : ((Tryz.prog.stopKnobs == [])) = true := by kernel_rfl
theorem placesDeep_fact9 : ((Rows.placesDeepRow.inPlace == Tryz.prog.inPlace 3)) = true := by kernel_rfl
theorem placesDeep_fact10 : ((Rows.placesDeepRow.unfollowed == Tryz.prog.unfollowed 3)) = true := by kernel_rfl
theorem placesDeep_fact11 : ((Rows.placesDeepRow.recurses == Tryz.prog.recurses 3)) = true := by kernel_rfl
theorem placesDeep_fact12 : ((Rows.placesDeepRow.named == Tryz.prog.varsNamed 3)) = true := by kernel_rfl
theorem placesDeep_fact13 : ((Rows.placesDeepRow.maps == (Tryz.f3.params.toList ++ Rows.placesDeepSpec.plain.varTypes Tryz.prog).any (Tryz.prog.mapsRec ·))) = true := by kernel_rfl
theorem placesDeep_fact14 : ((Rows.placesDeepRow.ifaces == (Tryz.f3.params.toList ++ Rows.placesDeepSpec.plain.varTypes Tryz.prog).any (Tryz.prog.ifacesRec ·))) = true := by kernel_rfl
theorem placesDeep_fact15 : ((Rows.placesDeepRow.mapsOut == Tryz.prog.mapsAmong Tryz.f3.resultTypes.toList)) = true := by kernel_rfl
theorem placesDeep_fact16 : ((Rows.placesDeepRow.loops == (Tryz.f3.params.toList ++ Rows.placesDeepSpec.plain.varTypes Tryz.prog).any (Tryz.prog.loopsFrom ·))) = true := by kernel_rfl
theorem placesDeep_fact17 : ((Rows.placesDeepRow.wideKeys == (Tryz.f3.params.toList ++ Rows.placesDeepSpec.plain.varTypes Tryz.prog ++ Tryz.f3.resultTypes.toList).any (Tryz.prog.wideKeysFrom ·))) = true := by kernel_rfl
theorem placesDeep_fact18 : (Rows.placesDeepSpec.vars.all (Tryz.prog.varReadable ·)) = true := by kernel_rfl
theorem placesDeep_fact19 : (Tryz.f3.resultTypes.all (fun t => Tryz.prog.readableRec t && decide (t < Tryz.prog.types.size))) = true := by kernel_rfl
theorem placesDeep_fact20 : ((Rows.placesDeepRow.ifacesOut == Tryz.f3.resultTypes.toList.any (Tryz.prog.ifacesRec ·))) = true := by kernel_rfl
theorem placesDeep_fact21 : ((Rows.placesDeepRow.loopsOut == Tryz.f3.resultTypes.toList.any (Tryz.prog.loopsFrom ·))) = true := by kernel_rfl
theorem placesDeep_fact22 : ((Rows.placesDeepRow.plainKeys == Tryz.prog.plainKeys)) = true := by kernel_rfl
theorem placesDeep_fact23 : (Rows.placesDeepRow.shortTexts.isNone) = true := by kernel_rfl
theorem placesDeep_fact24 : (Tryz.prog.stopsHeard) = true := by kernel_rfl
theorem placesDeep_fact25 : (Tryz.prog.mayEnter) = true := by kernel_rfl
theorem placesDeep_fact26 : ((Rows.placesDeepRow.lifted == Tryz.prog.liftsFinal)) = true := by kernel_rfl
theorem placesDeep_fact27 : ((Tryz.prog.make == some Rows.placesDeepRow.make)) = true := by kernel_rfl
theorem placesDeep_fact28 : ((Rows.placesDeepRow.kinds == (if Rows.placesDeepRow.domain.isEmpty then [] else Tryz.f3.params.toList.map fun t => match Tryz.prog.underlying t with | some (.int k) => some k | _ => none))) = true := by kernel_rfl
theorem placesDeep_fact29 : ((Rows.placesDeepRow.pinned == Rows.placesDeepRow.pinnedBy)) = true := by kernel_rfl
theorem placesDeep_fact30 : ((Rows.placesDeepRow.veiled == (Tryz.f3.params.toList ++ Rows.placesDeepSpec.plain.varTypes Tryz.prog ++ Tryz.f3.resultTypes.toList).any (Tryz.prog.veiledRec ·))) = true := by kernel_rfl
theorem placesDeep_fact31 : (Rows.placesDeepRow.veiledFits Tryz.prog Tryz.f3.params.toList (Tryz.f3.params.toList ++ Rows.placesDeepSpec.plain.varTypes Tryz.prog ++ Tryz.f3.resultTypes.toList)) = true := by kernel_rfl
theorem placesDeep_facts : joinedFacts Tryz.prog 3 Tryz.f3 Rows.placesDeepSpec Rows.placesDeepRow = true := (and_t (and_t (and_t (and_t (and_t (and_t (and_t (and_t (and_t (and_t (and_t (and_t (and_t (and_t (and_t (and_t (and_t (and_t (and_t (and_t (and_t (and_t (and_t (and_t (and_t (and_t (and_t (and_t (and_t (and_t (and_t placesDeep_fact0 placesDeep_fact1) placesDeep_fact2) placesDeep_fact3) placesDeep_fact4) placesDeep_fact5) placesDeep_fact6) placesDeep_fact7) placesDeep_fact8) placesDeep_fact9) placesDeep_fact10) placesDeep_fact11) placesDeep_fact12) placesDeep_fact13) placesDeep_fact14) placesDeep_fact15) placesDeep_fact16) placesDeep_fact17) placesDeep_fact18) placesDeep_fact19) placesDeep_fact20) placesDeep_fact21) placesDeep_fact22) placesDeep_fact23) placesDeep_fact24) placesDeep_fact25) placesDeep_fact26) placesDeep_fact27) placesDeep_fact28) placesDeep_fact29) placesDeep_fact30) placesDeep_fact31)
end Go.Proofs.YtihonmpkfhchbaaGreatDoor
