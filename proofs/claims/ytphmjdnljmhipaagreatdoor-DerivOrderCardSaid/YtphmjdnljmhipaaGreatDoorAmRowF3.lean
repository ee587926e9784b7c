/- The closed facts of the row of DerivOrder, one by one. Made by program. -/
import Derived.Test.YtphmjdnljmhipaaGreatDoorRows
import Derived.JoinedOf
import Derived.KernelRfl
set_option linter.unusedSimpArgs false
set_option linter.unusedVariables false
set_option maxRecDepth 100000
namespace Go.Proofs.YtphmjdnljmhipaaGreatDoor
open Go
theorem and2 {a b : Bool} (h : a = true) (k : b = true) : (a && b) = true := by rw [h, k]; rfl
theorem derivOrderFact0 : (Rows.derivOrderRow.wf (OpenSpec.ofChange Rows.derivOrderSpec)) = true := by kernel_rfl
theorem derivOrderFact1 : (laidOutB Tryz.pinned.checked.prog) = true := by kernel_rfl
theorem derivOrderFact2 : (mapsRowed Tryz.pinned.checked.prog) = true := by kernel_rfl
theorem derivOrderFact3 : (Tryz.f3.params.all (Tryz.pinned.checked.prog.readableRec ·)) = true := by kernel_rfl
theorem derivOrderFact4 : (namedTie Tryz.pinned.checked.prog Rows.derivOrderRow.named Rows.derivOrderSpec.vars) = true := by kernel_rfl
theorem derivOrderFact5 : ((Rows.derivOrderRow.stops == [])) = true := by kernel_rfl
theorem derivOrderFact6 : ((Tryz.pinned.checked.prog.stops == [])) = true := by kernel_rfl
theorem derivOrderFact7 : ((Rows.derivOrderRow.knobs == [])) = true := by kernel_rfl
theorem derivOrderFact8 : ((Tryz.pinned.checked.prog.stopKnobs == [])) = true := by kernel_rfl
theorem derivOrderFact9 : ((Rows.derivOrderRow.inPlace == Tryz.pinned.checked.prog.inPlace 3)) = true := by kernel_rfl
theorem derivOrderFact10 : ((Rows.derivOrderRow.unfollowed == Tryz.pinned.checked.prog.unfollowed 3)) = true := by kernel_rfl
theorem derivOrderFact11 : ((Rows.derivOrderRow.recurses == Tryz.pinned.checked.prog.recurses 3)) = true := by kernel_rfl
theorem derivOrderFact12 : ((Rows.derivOrderRow.named == Tryz.pinned.checked.prog.varsNamed 3)) = true := by kernel_rfl
theorem derivOrderFact13 : ((Rows.derivOrderRow.maps == (Tryz.f3.params.toList ++ Rows.derivOrderSpec.plain.varTypes Tryz.pinned.checked.prog).any (Tryz.pinned.checked.prog.mapsRec ·))) = true := by kernel_rfl
theorem derivOrderFact14 : ((Rows.derivOrderRow.ifaces == (Tryz.f3.params.toList ++ Rows.derivOrderSpec.plain.varTypes Tryz.pinned.checked.prog).any (Tryz.pinned.checked.prog.ifacesRec ·))) = true := by kernel_rfl
theorem derivOrderFact15 : ((Rows.derivOrderRow.mapsOut == Tryz.pinned.checked.prog.mapsAmong Tryz.f3.resultTypes.toList)) = true := by kernel_rfl
theorem derivOrderFact16 : ((Rows.derivOrderRow.loops == (Tryz.f3.params.toList ++ Rows.derivOrderSpec.plain.varTypes Tryz.pinned.checked.prog).any (Tryz.pinned.checked.prog.loopsFrom ·))) = true := by kernel_rfl
theorem derivOrderFact17 : ((Rows.derivOrderRow.wideKeys == (Tryz.f3.params.toList ++ Rows.derivOrderSpec.plain.varTypes Tryz.pinned.checked.prog ++ Tryz.f3.resultTypes.toList).any (Tryz.pinned.checked.prog.wideKeysFrom ·))) = true := by kernel_rfl
theorem derivOrderFact18 : (Rows.derivOrderSpec.vars.all (Tryz.pinned.checked.prog.varReadable ·)) = true := by kernel_rfl
theorem derivOrderFact19 : (Tryz.f3.resultTypes.all (fun t => Tryz.pinned.checked.prog.readableRec t && decide (t < Tryz.pinned.checked.prog.types.size))) = true := by kernel_rfl
theorem derivOrderFact20 : ((Rows.derivOrderRow.ifacesOut == Tryz.f3.resultTypes.toList.any (Tryz.pinned.checked.prog.ifacesRec ·))) = true := by kernel_rfl
theorem derivOrderFact21 : ((Rows.derivOrderRow.loopsOut == Tryz.f3.resultTypes.toList.any (Tryz.pinned.checked.prog.loopsFrom ·))) = true := by kernel_rfl
theorem derivOrderFact22 : ((Rows.derivOrderRow.plainKeys == Tryz.pinned.checked.prog.plainKeys)) = true := by kernel_rfl
theorem derivOrderFact23 : (Rows.derivOrderRow.shortTexts.isNone) = true := by kernel_rfl
theorem derivOrderFact24 : (Tryz.pinned.checked.prog.stopsHeard) = true := by kernel_rfl
theorem derivOrderFact25 : (Tryz.pinned.checked.prog.mayEnter) = true := by kernel_rfl
theorem derivOrderFact26 : ((Rows.derivOrderRow.lifted == Tryz.pinned.checked.prog.liftsFinal)) = true := by kernel_rfl
theorem derivOrderFact27 : ((Tryz.pinned.checked.prog.make == some Rows.derivOrderRow.make)) = true := by kernel_rfl
theorem derivOrderFact28 : ((Rows.derivOrderRow.kinds == (if Rows.derivOrderRow.domain.isEmpty then [] else Tryz.f3.params.toList.map fun t => match Tryz.pinned.checked.prog.underlying t with | some (.int k) => some k | _ => none))) = true := by kernel_rfl
theorem derivOrderFact29 : ((Rows.derivOrderRow.pinned == Rows.derivOrderRow.pinnedBy)) = true := by kernel_rfl
theorem derivOrderFact30 : ((Rows.derivOrderRow.veiled == (Tryz.f3.params.toList ++ Rows.derivOrderSpec.plain.varTypes Tryz.pinned.checked.prog ++ Tryz.f3.resultTypes.toList).any (Tryz.pinned.checked.prog.veiledRec ·))) = true := by kernel_rfl
theorem derivOrderFact31 : (Rows.derivOrderRow.veiledFits Tryz.pinned.checked.prog Tryz.f3.params.toList (Tryz.f3.params.toList ++ Rows.derivOrderSpec.plain.varTypes Tryz.pinned.checked.prog ++ Tryz.f3.resultTypes.toList)) = true := by kernel_rfl
theorem derivOrderClosed : joinedFacts Tryz.pinned.checked.prog 3 Tryz.f3 Rows.derivOrderSpec Rows.derivOrderRow = true := (and2 (and2 (and2 (and2 (and2 (and2 (and2 (and2 (and2 (and2 (and2 (and2 (and2 (and2 (and2 (and2 (and2 (and2 (and2 (and2 (and2 (and2 (and2 (and2 (and2 (and2 (and2 (and2 (and2 (and2 (and2 derivOrderFact0 derivOrderFact1) derivOrderFact2) derivOrderFact3) derivOrderFact4) derivOrderFact5) derivOrderFact6) derivOrderFact7) derivOrderFact8) derivOrderFact9) derivOrderFact10) derivOrderFact11) derivOrderFact12) derivOrderFact13) derivOrderFact14) derivOrderFact15) derivOrderFact16) derivOrderFact17) derivOrderFact18) derivOrderFact19) derivOrderFact20) derivOrderFact21) derivOrderFact22) derivOrderFact23) derivOrderFact24) derivOrderFact25) derivOrderFact26) derivOrderFact27) derivOrderFact28) derivOrderFact29) derivOrderFact30) derivOrderFact31)
end Go.Proofs.YtphmjdnljmhipaaGreatDoor
