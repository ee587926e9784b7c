/- The closed facts of the row of DerivTexts, one by one. Made by program. -/
import Derived.Test.YtphmjdnljmhipaaGreatDoorRows
import Derived.JoinedOf
import Derived.KernelRfl
set_option linter.unusedSimpArgs false
set_option linter.unusedVariables false
set_option maxRecDepth 100000
namespace Go.Proofs.YtphmjdnljmhipaaGreatDoor
open Go
theorem and2 {a b : Bool} (h : a = true) (k : b = true) : (a && b) = true := by rw [h, k]; rfl
theorem derivTextsFact0 : (Rows.derivTextsRow.wf (OpenSpec.ofChange Rows.derivTextsSpec)) = true := by kernel_rfl
theorem derivTextsFact1 : (laidOutB Tryz.pinned.checked.prog) = true := by kernel_rfl
theorem derivTextsFact2 : (mapsRowed Tryz.pinned.checked.prog) = true := by kernel_rfl
theorem derivTextsFact3 : (Tryz.f6.params.all (Tryz.pinned.checked.prog.readableRec ·)) = true := by kernel_rfl
theorem derivTextsFact4 : (namedTie Tryz.pinned.checked.prog Rows.derivTextsRow.named Rows.derivTextsSpec.vars) = true := by kernel_rfl
theorem derivTextsFact5 : ((Rows.derivTextsRow.stops == [])) = true := by kernel_rfl
theorem derivTextsFact6 : ((Tryz.pinned.checked.prog.stops == [])) = true := by kernel_rfl
theorem derivTextsFact7 : ((Rows.derivTextsRow.knobs == [])) = true := by kernel_rfl
theorem derivTextsFact8 : ((Tryz.pinned.checked.prog.stopKnobs == [])) = true := by kernel_rfl
theorem derivTextsFact9 : ((Rows.derivTextsRow.inPlace == Tryz.pinned.checked.prog.inPlace 6)) = true := by kernel_rfl
theorem derivTextsFact10 : ((Rows.derivTextsRow.unfollowed == Tryz.pinned.checked.prog.unfollowed 6)) = true := by kernel_rfl
theorem derivTextsFact11 : ((Rows.derivTextsRow.recurses == Tryz.pinned.checked.prog.recurses 6)) = true := by kernel_rfl
theorem derivTextsFact12 : ((Rows.derivTextsRow.named == Tryz.pinned.checked.prog.varsNamed 6)) = true := by kernel_rfl
theorem derivTextsFact13 : ((Rows.derivTextsRow.maps == (Tryz.f6.params.toList ++ Rows.derivTextsSpec.plain.varTypes Tryz.pinned.checked.prog).any (Tryz.pinned.checked.prog.mapsRec ·))) = true := by kernel_rfl
theorem derivTextsFact14 : ((Rows.derivTextsRow.ifaces == (Tryz.f6.params.toList ++ Rows.derivTextsSpec.plain.varTypes Tryz.pinned.checked.prog).any (Tryz.pinned.checked.prog.ifacesRec ·))) = true := by kernel_rfl
theorem derivTextsFact15 : ((Rows.derivTextsRow.mapsOut == Tryz.pinned.checked.prog.mapsAmong Tryz.f6.resultTypes.toList)) = true := by kernel_rfl
theorem derivTextsFact16 : ((Rows.derivTextsRow.loops == (Tryz.f6.params.toList ++ Rows.derivTextsSpec.plain.varTypes Tryz.pinned.checked.prog).any (Tryz.pinned.checked.prog.loopsFrom ·))) = true := by kernel_rfl
theorem derivTextsFact17 : ((Rows.derivTextsRow.wideKeys == (Tryz.f6.params.toList ++ Rows.derivTextsSpec.plain.varTypes Tryz.pinned.checked.prog ++ Tryz.f6.resultTypes.toList).any (Tryz.pinned.checked.prog.wideKeysFrom ·))) = true := by kernel_rfl
theorem derivTextsFact18 : (Rows.derivTextsSpec.vars.all (Tryz.pinned.checked.prog.varReadable ·)) = true := by kernel_rfl
theorem derivTextsFact19 : (Tryz.f6.resultTypes.all (fun t => Tryz.pinned.checked.prog.readableRec t && decide (t < Tryz.pinned.checked.prog.types.size))) = true := by kernel_rfl
theorem derivTextsFact20 : ((Rows.derivTextsRow.ifacesOut == Tryz.f6.resultTypes.toList.any (Tryz.pinned.checked.prog.ifacesRec ·))) = true := by kernel_rfl
theorem derivTextsFact21 : ((Rows.derivTextsRow.loopsOut == Tryz.f6.resultTypes.toList.any (Tryz.pinned.checked.prog.loopsFrom ·))) = true := by kernel_rfl
theorem derivTextsFact22 : ((Rows.derivTextsRow.plainKeys == Tryz.pinned.checked.prog.plainKeys)) = true := by kernel_rfl
theorem derivTextsFact23 : (Rows.derivTextsRow.shortTexts.isNone) = true := by kernel_rfl
theorem derivTextsFact24 : (Tryz.pinned.checked.prog.stopsHeard) = true := by kernel_rfl
theorem derivTextsFact25 : (Tryz.pinned.checked.prog.mayEnter) = true := by kernel_rfl
theorem derivTextsFact26 : ((Rows.derivTextsRow.lifted == Tryz.pinned.checked.prog.liftsFinal)) = true := by kernel_rfl
theorem derivTextsFact27 : ((Tryz.pinned.checked.prog.make == some Rows.derivTextsRow.make)) = true := by kernel_rfl
theorem derivTextsFact28 : ((Rows.derivTextsRow.kinds == (if Rows.derivTextsRow.domain.isEmpty then [] else Tryz.f6.params.toList.map fun t => match Tryz.pinned.checked.prog.underlying t with | some (.int k) => some k | _ => none))) = true := by kernel_rfl
theorem derivTextsFact29 : ((Rows.derivTextsRow.pinned == Rows.derivTextsRow.pinnedBy)) = true := by kernel_rfl
theorem derivTextsFact30 : ((Rows.derivTextsRow.veiled == (Tryz.f6.params.toList ++ Rows.derivTextsSpec.plain.varTypes Tryz.pinned.checked.prog ++ Tryz.f6.resultTypes.toList).any (Tryz.pinned.checked.prog.veiledRec ·))) = true := by kernel_rfl
theorem derivTextsFact31 : (Rows.derivTextsRow.veiledFits Tryz.pinned.checked.prog Tryz.f6.params.toList (Tryz.f6.params.toList ++ Rows.derivTextsSpec.plain.varTypes Tryz.pinned.checked.prog ++ Tryz.f6.resultTypes.toList)) = true := by kernel_rfl
theorem derivTextsClosed : joinedFacts Tryz.pinned.checked.prog 6 Tryz.f6 Rows.derivTextsSpec Rows.derivTextsRow = true := (and2 (and2 (and2 (and2 (and2 (and2 (and2 (and2 (and2 (and2 (and2 (and2 (and2 (and2 (and2 (and2 (and2 (and2 (and2 (and2 (and2 (and2 (and2 (and2 (and2 (and2 (and2 (and2 (and2 (and2 (and2 derivTextsFact0 derivTextsFact1) derivTextsFact2) derivTextsFact3) derivTextsFact4) derivTextsFact5) derivTextsFact6) derivTextsFact7) derivTextsFact8) derivTextsFact9) derivTextsFact10) derivTextsFact11) derivTextsFact12) derivTextsFact13) derivTextsFact14) derivTextsFact15) derivTextsFact16) derivTextsFact17) derivTextsFact18) derivTextsFact19) derivTextsFact20) derivTextsFact21) derivTextsFact22) derivTextsFact23) derivTextsFact24) derivTextsFact25) derivTextsFact26) derivTextsFact27) derivTextsFact28) derivTextsFact29) derivTextsFact30) derivTextsFact31)
end Go.Proofs.YtphmjdnljmhipaaGreatDoor
