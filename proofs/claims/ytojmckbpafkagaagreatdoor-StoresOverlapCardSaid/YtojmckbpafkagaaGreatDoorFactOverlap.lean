/- The closed facts of the row storesOverlap, one by one. -/
import Derived.Test.YtojmckbpafkagaaGreatDoorLiftL
set_option linter.unusedVariables false
set_option linter.unusedSimpArgs false
namespace Go.Proofs.YtojmckbpafkagaaGreatDoor
set_option maxRecDepth 100000
theorem and_t {a b : Bool} (ha : a = true) (hb : b = true) : (a && b) = true := by rw [ha, hb]; rfl
theorem storesOverlap_fact0 : (Rows.storesOverlapRow.wf (OpenSpec.ofChange Rows.storesOverlapSpec)) = true := by kernel_rfl
theorem storesOverlap_fact1 : (laidOutB Tryz.prog) = true := by kernel_rfl
theorem storesOverlap_fact2 : (mapsRowed Tryz.prog) = true := by kernel_rfl
theorem storesOverlap_fact3 : (Tryz.f3.params.all (Tryz.prog.readableRec ·)) = true := by kernel_rfl
theorem storesOverlap_fact4 : (namedTie Tryz.prog Rows.storesOverlapRow.named Rows.storesOverlapSpec.vars) = true := by kernel_rfl
theorem storesOverlap_fact5 : ((Rows.storesOverlapRow.stops == [])) = true := by kernel_rfl
theorem storesOverlap_fact6 : ((Tryz.prog.stops == [])) = true := by kernel_rfl
theorem storesOverlap_fact7 : ((Rows.storesOverlapRow.knobs == [])) = true := by kernel_rfl
theorem storesOverlap_fact8 : ((Tryz.prog.stopKnobs == [])) = true := by kernel_rfl
theorem storesOverlap_fact9 : ((Rows.storesOverlapRow.inPlace == Tryz.prog.inPlace 3)) = true := by kernel_rfl
theorem storesOverlap_fact10 : ((Rows.storesOverlapRow.unfollowed == Tryz.prog.unfollowed 3)) = true := by kernel_rfl
theorem storesOverlap_fact11 : ((Rows.storesOverlapRow.recurses == Tryz.prog.recurses 3)) = true := by kernel_rfl
theorem storesOverlap_fact12 : ((Rows.storesOverlapRow.named == Tryz.prog.varsNamed 3)) = true := by kernel_rfl
theorem storesOverlap_fact13 : ((Rows.storesOverlapRow.maps == (Tryz.f3.params.toList ++ Rows.storesOverlapSpec.plain.varTypes Tryz.prog).any (Tryz.prog.mapsRec ·))) = true := by kernel_rfl
theorem storesOverlap_fact14 : ((Rows.storesOverlapRow.ifaces == (Tryz.f3.params.toList ++ Rows.storesOverlapSpec.plain.varTypes Tryz.prog).any (Tryz.prog.ifacesRec ·))) = true := by kernel_rfl
theorem storesOverlap_fact15 : ((Rows.storesOverlapRow.mapsOut == Tryz.prog.mapsAmong Tryz.f3.resultTypes.toList)) = true := by kernel_rfl
theorem storesOverlap_fact16 : ((Rows.storesOverlapRow.loops == (Tryz.f3.params.toList ++ Rows.storesOverlapSpec.plain.varTypes Tryz.prog).any (Tryz.prog.loopsFrom ·))) = true := by kernel_rfl
theorem storesOverlap_fact17 : ((Rows.storesOverlapRow.wideKeys == (Tryz.f3.params.toList ++ Rows.storesOverlapSpec.plain.varTypes Tryz.prog ++ Tryz.f3.resultTypes.toList).any (Tryz.prog.wideKeysFrom ·))) = true := by kernel_rfl
theorem storesOverlap_fact18 : (Rows.storesOverlapSpec.vars.all (Tryz.prog.varReadable ·)) = true := by kernel_rfl
theorem storesOverlap_fact19 : (Tryz.f3.resultTypes.all (fun t => Tryz.prog.readableRec t && decide (t < Tryz.prog.types.size))) = true := by kernel_rfl
theorem storesOverlap_fact20 : ((Rows.storesOverlapRow.ifacesOut == Tryz.f3.resultTypes.toList.any (Tryz.prog.ifacesRec ·))) = true := by kernel_rfl
theorem storesOverlap_fact21 : ((Rows.storesOverlapRow.loopsOut == Tryz.f3.resultTypes.toList.any (Tryz.prog.loopsFrom ·))) = true := by kernel_rfl
theorem storesOverlap_fact22 : ((Rows.storesOverlapRow.plainKeys == Tryz.prog.plainKeys)) = true := by kernel_rfl
theorem storesOverlap_fact23 : (Rows.storesOverlapRow.shortTexts.isNone) = true := by kernel_rfl
theorem storesOverlap_fact24 : (Tryz.prog.stopsHeard) = true := by kernel_rfl
theorem storesOverlap_fact25 : (Tryz.prog.mayEnter) = true := by kernel_rfl
theorem storesOverlap_fact26 : ((Rows.storesOverlapRow.lifted == Tryz.prog.liftsFinal)) = true := by kernel_rfl
theorem storesOverlap_fact27 : ((Tryz.prog.make == some Rows.storesOverlapRow.make)) = true := by kernel_rfl
theorem storesOverlap_fact28 : ((Rows.storesOverlapRow.kinds == (if Rows.storesOverlapRow.domain.isEmpty then [] else Tryz.f3.params.toList.map fun t => match Tryz.prog.underlying t with | some (.int k) => some k | _ => none))) = true := by kernel_rfl
theorem storesOverlap_fact29 : ((Rows.storesOverlapRow.pinned == Rows.storesOverlapRow.pinnedBy)) = true := by kernel_rfl
theorem storesOverlap_fact30 : ((Rows.storesOverlapRow.veiled == (Tryz.f3.params.toList ++ Rows.storesOverlapSpec.plain.varTypes Tryz.prog ++ Tryz.f3.resultTypes.toList).any (Tryz.prog.veiledRec ·))) = true := by kernel_rfl
theorem storesOverlap_fact31 : (Rows.storesOverlapRow.veiledFits Tryz.prog Tryz.f3.params.toList (Tryz.f3.params.toList ++ Rows.storesOverlapSpec.plain.varTypes Tryz.prog ++ Tryz.f3.resultTypes.toList)) = true := by kernel_rfl
theorem storesOverlap_facts : joinedFacts Tryz.prog 3 Tryz.f3 Rows.storesOverlapSpec Rows.storesOverlapRow = true := (and_t (and_t (and_t (and_t (and_t (and_t (and_t (and_t (and_t (and_t (and_t (and_t (and_t (and_t (and_t (and_t (and_t (and_t (and_t (and_t (and_t (and_t (and_t (and_t (and_t (and_t (and_t (and_t (and_t (and_t (and_t storesOverlap_fact0 storesOverlap_fact1) storesOverlap_fact2) storesOverlap_fact3) storesOverlap_fact4) storesOverlap_fact5) storesOverlap_fact6) storesOverlap_fact7) storesOverlap_fact8) storesOverlap_fact9) storesOverlap_fact10) storesOverlap_fact11) storesOverlap_fact12) storesOverlap_fact13) storesOverlap_fact14) storesOverlap_fact15) storesOverlap_fact16) storesOverlap_fact17) storesOverlap_fact18) storesOverlap_fact19) storesOverlap_fact20) storesOverlap_fact21) storesOverlap_fact22) storesOverlap_fact23) storesOverlap_fact24) storesOverlap_fact25) storesOverlap_fact26) storesOverlap_fact27) storesOverlap_fact28) storesOverlap_fact29) storesOverlap_fact30) storesOverlap_fact31)
end Go.Proofs.YtojmckbpafkagaaGreatDoor
