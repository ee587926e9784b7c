/- The closed facts of the row of DerivCompares, one by one. Made by program. -/
import Derived.Test.YtphmjdnljmhipaaGreatDoorRows
import Derived.JoinedOf
import Derived.KernelRfl
set_option linter.unusedSimpArgs false
set_option linter.unusedVariables false
set_option maxRecDepth 100000
namespace Go.Proofs.YtphmjdnljmhipaaGreatDoor
open Go
theorem and2 {a b : Bool} (h : a = true) (k : b = true) : (a && b) = true := by rw [h, k]; rfl
theorem derivComparesFact0 : (Rows.derivComparesRow.wf (OpenSpec.ofChange Rows.derivComparesSpec)) = true := by kernel_rfl
theorem derivComparesFact1 : (laidOutB Tryz.pinned.checked.prog) = true := by kernel_rfl
theorem derivComparesFact2 : (mapsRowed Tryz.pinned.checked.prog) = true := by kernel_rfl
theorem derivComparesFact3 : (Tryz.f5.params.all (Tryz.pinned.checked.prog.readableRec ·)) = true := by kernel_rfl
theorem derivComparesFact4 : (namedTie Tryz.pinned.checked.prog Rows.derivComparesRow.named Rows.derivComparesSpec.vars) = true := by kernel_rfl
theorem derivComparesFact5 : ((Rows.derivComparesRow.stops == [])) = true := by kernel_rfl
theorem derivComparesFact6 : ((Tryz.pinned.checked.prog.stops == [])) = true := by kernel_rfl
theorem derivComparesFact7 : ((Rows.derivComparesRow.knobs == [])) = true := by kernel_rfl
theorem derivComparesFact8 : ((Tryz.pinned.checked.prog.stopKnobs == [])) = true := by kernel_rfl
theorem derivComparesFact9 : ((Rows.derivComparesRow.inPlace == Tryz.pinned.checked.prog.inPlace 5)) = true := by kernel_rfl
theorem derivComparesFact10 : ((Rows.derivComparesRow.unfollowed == Tryz.pinned.checked.prog.unfollowed 5)) = true := by kernel_rfl
theorem derivComparesFact11 : ((Rows.derivComparesRow.recurses == Tryz.pinned.checked.prog.recurses 5)) = true := by kernel_rfl
theorem derivComparesFact12 : ((Rows.derivComparesRow.named == Tryz.pinned.checked.prog.varsNamed 5)) = true := by kernel_rfl
theorem derivComparesFact13 : ((Rows.derivComparesRow.maps == (Tryz.f5.params.toList ++ Rows.derivComparesSpec.plain.varTypes Tryz.pinned.checked.prog).any (Tryz.pinned.checked.prog.mapsRec ·))) = true := by kernel_rfl
theorem derivComparesFact14 : ((Rows.derivComparesRow.ifaces == (Tryz.f5.params.toList ++ Rows.derivComparesSpec.plain.varTypes Tryz.pinned.checked.prog).any (Tryz.pinned.checked.prog.ifacesRec ·))) = true := by kernel_rfl
theorem derivComparesFact15 : ((Rows.derivComparesRow.mapsOut == Tryz.pinned.checked.prog.mapsAmong Tryz.f5.resultTypes.toList)) = true := by kernel_rfl
theorem derivComparesFact16 : ((Rows.derivComparesRow.loops == (Tryz.f5.params.toList ++ Rows.derivComparesSpec.plain.varTypes Tryz.pinned.checked.prog).any (Tryz.pinned.checked.prog.loopsFrom ·))) = true := by kernel_rfl
theorem derivComparesFact17 : ((Rows.derivComparesRow.wideKeys == (Tryz.f5.params.toList ++ Rows.derivComparesSpec.plain.varTypes Tryz.pinned.checked.prog ++ Tryz.f5.resultTypes.toList).any (Tryz.pinned.checked.prog.wideKeysFrom ·))) = true := by kernel_rfl
theorem derivComparesFact18 : (Rows.derivComparesSpec.vars.all (Tryz.pinned.checked.prog.varReadable ·)) = true := by kernel_rfl
theorem derivComparesFact19 : (Tryz.f5.resultTypes.all (fun t => Tryz.pinned.checked.prog.readableRec t && decide (t < Tryz.pinned.checked.prog.types.size))) = true := by kernel_rfl
theorem derivComparesFact20 : ((Rows.derivComparesRow.ifacesOut == Tryz.f5.resultTypes.toList.any (Tryz.pinned.checked.prog.ifacesRec ·))) = true := by kernel_rfl
theorem derivComparesFact21 : ((Rows.derivComparesRow.loopsOut == Tryz.f5.resultTypes.toList.any (Tryz.pinned.checked.prog.loopsFrom ·))) = true := by kernel_rfl
theorem derivComparesFact22 : ((Rows.derivComparesRow.plainKeys == Tryz.pinned.checked.prog.plainKeys)) = true := by kernel_rfl
theorem derivComparesFact23 : (Rows.derivComparesRow.shortTexts.isNone) = true := by kernel_rfl
theorem derivComparesFact24 : (Tryz.pinned.checked.prog.stopsHeard) = true := by kernel_rfl
theorem derivComparesFact25 : (Tryz.pinned.checked.prog.mayEnter) = true := by kernel_rfl
theorem derivComparesFact26 : ((Rows.derivComparesRow.lifted == Tryz.pinned.checked.prog.liftsFinal)) = true := by kernel_rfl
theorem derivComparesFact27 : ((Tryz.pinned.checked.prog.make == some Rows.derivComparesRow.make)) = true := by kernel_rfl
theorem derivComparesFact28 : ((Rows.derivComparesRow.kinds == (if Rows.derivComparesRow.domain.isEmpty then [] else Tryz.f5.params.toList.map fun t => match Tryz.pinned.checked.prog.underlying t with | some (.int k) => some k | _ => none))) = true := by kernel_rfl
theorem derivComparesFact29 : ((Rows.derivComparesRow.pinned == Rows.derivComparesRow.pinnedBy)) = true := by kernel_rfl
theorem derivComparesFact30 : ((Rows.derivComparesRow.veiled == (Tryz.f5.params.toList ++ Rows.derivComparesSpec.plain.varTypes Tryz.pinned.checked.prog ++ Tryz.f5.resultTypes.toList).any (Tryz.pinned.checked.prog.veiledRec ·))) = true := by kernel_rfl
theorem derivComparesFact31 : (Rows.derivComparesRow.veiledFits Tryz.pinned.checked.prog Tryz.f5.params.toList (Tryz.f5.params.toList ++ Rows.derivComparesSpec.plain.varTypes Tryz.pinned.checked.prog ++ Tryz.f5.resultTypes.toList)) = true := by kernel_rfl
theorem derivComparesClosed : joinedFacts Tryz.pinned.checked.prog 5 Tryz.f5 Rows.derivComparesSpec Rows.derivComparesRow = true := (and2 (and2 (and2 (and2 (and2 (and2 (and2 (and2 (and2 (and2 (and2 (and2 (and2 (and2 (and2 (and2 (and2 (and2 (and2 (and2 (and2 (and2 (and2 (and2 (and2 (and2 (and2 (and2 (and2 (and2 (and2 derivComparesFact0 derivComparesFact1) derivComparesFact2) derivComparesFact3) derivComparesFact4) derivComparesFact5) derivComparesFact6) derivComparesFact7) derivComparesFact8) derivComparesFact9) derivComparesFact10) derivComparesFact11) derivComparesFact12) derivComparesFact13) derivComparesFact14) derivComparesFact15) derivComparesFact16) derivComparesFact17) derivComparesFact18) derivComparesFact19) derivComparesFact20) derivComparesFact21) derivComparesFact22) derivComparesFact23) derivComparesFact24) derivComparesFact25) derivComparesFact26) derivComparesFact27) derivComparesFact28) derivComparesFact29) derivComparesFact30) derivComparesFact31)
end Go.Proofs.YtphmjdnljmhipaaGreatDoor
