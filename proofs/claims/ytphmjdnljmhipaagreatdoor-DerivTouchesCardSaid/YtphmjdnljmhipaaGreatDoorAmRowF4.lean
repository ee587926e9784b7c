/- The closed facts of the row of DerivTouches, one by one. Made by program. -/
import Derived.Test.YtphmjdnljmhipaaGreatDoorRows
import Derived.JoinedOf
import Derived.KernelRfl
set_option linter.unusedSimpArgs false
set_option linter.unusedVariables false
set_option linter.defProp false
set_option maxRecDepth 100000
namespace Go.Proofs.YtphmjdnljmhipaaGreatDoor
open Go
theorem and2 {a b : Bool} (h : a = true) (k : b = true) : (a && b) = true := by rw [h, k]; rfl
theorem derivTouchesFact0 : (Rows.derivTouchesRow.wf (OpenSpec.ofChange Rows.derivTouchesSpec)) = true := by kernel_rfl
theorem derivTouchesFact1 : (laidOutB Tryz.pinned.checked.prog) = true := by kernel_rfl
theorem derivTouchesFact2 : (mapsRowed Tryz.pinned.checked.prog) = true := by kernel_rfl
theorem derivTouchesFact3 : (Tryz.f4.params.all (Tryz.pinned.checked.prog.readableRec ·)) = true := by kernel_rfl
theorem derivTouchesFact4 : (namedTie Tryz.pinned.checked.prog Rows.derivTouchesRow.named Rows.derivTouchesSpec.vars) = true := by kernel_rfl
theorem derivTouchesFact5 : ((Rows.derivTouchesRow.stops == [])) = true := by kernel_rfl
theorem derivTouchesFact6 : ((Tryz.pinned.checked.prog.stops == [])) = true := by kernel_rfl
theorem derivTouchesFact7 : ((Rows.derivTouchesRow.knobs == [])) = true := by kernel_rfl
theorem derivTouchesFact8 : ((Tryz.pinned.checked.prog.stopKnobs == [])) = true := by kernel_rfl
theorem derivTouchesFact9 : ((Rows.derivTouchesRow.inPlace == Tryz.pinned.checked.prog.inPlace 4)) = true := by kernel_rfl
theorem derivTouchesFact10 : ((Rows.derivTouchesRow.unfollowed == Tryz.pinned.checked.prog.unfollowed 4)) = true := by kernel_rfl
theorem derivTouchesFact11 : ((Rows.derivTouchesRow.recurses == Tryz.pinned.checked.prog.recurses 4)) = true := by kernel_rfl
theorem derivTouchesFact12 : ((Rows.derivTouchesRow.named == Tryz.pinned.checked.prog.varsNamed 4)) = true := by kernel_rfl
theorem derivTouchesFact13 : ((Rows.derivTouchesRow.maps == (Tryz.f4.params.toList ++ Rows.derivTouchesSpec.plain.varTypes Tryz.pinned.checked.prog).any (Tryz.pinned.checked.prog.mapsRec ·))) = true := by kernel_rfl
theorem derivTouchesFact14 : ((Rows.derivTouchesRow.ifaces == (Tryz.f4.params.toList ++ Rows.derivTouchesSpec.plain.varTypes Tryz.pinned.checked.prog).any (Tryz.pinned.checked.prog.ifacesRec ·))) = true := by kernel_rfl
theorem derivTouchesFact15 : ((Rows.derivTouchesRow.mapsOut == Tryz.pinned.checked.prog.mapsAmong Tryz.f4.resultTypes.toList)) = true := by kernel_rfl
theorem derivTouchesFact16 : ((Rows.derivTouchesRow.loops == (Tryz.f4.params.toList ++ Rows.derivTouchesSpec.plain.varTypes Tryz.pinned.checked.prog).any (Tryz.pinned.checked.prog.loopsFrom ·))) = true := by kernel_rfl
theorem derivTouchesFact17 : ((Rows.derivTouchesRow.wideKeys == (Tryz.f4.params.toList ++ Rows.derivTouchesSpec.plain.varTypes Tryz.pinned.checked.prog ++ Tryz.f4.resultTypes.toList).any (Tryz.pinned.checked.prog.wideKeysFrom ·))) = true := by kernel_rfl
theorem derivTouchesFact18 : (Rows.derivTouchesSpec.vars.all (Tryz.pinned.checked.prog.varReadable ·)) = true := by kernel_rfl
theorem derivTouchesFact19 : (Tryz.f4.resultTypes.all (fun t => Tryz.pinned.checked.prog.readableRec t && decide (t < Tryz.pinned.checked.prog.types.size))) = true := by kernel_rfl
theorem derivTouchesFact20 : ((Rows.derivTouchesRow.ifacesOut == Tryz.f4.resultTypes.toList.any (Tryz.pinned.checked.prog.ifacesRec ·))) = true := by kernel_rfl
theorem derivTouchesFact21 : ((Rows.derivTouchesRow.loopsOut == Tryz.f4.resultTypes.toList.any (Tryz.pinned.checked.prog.loopsFrom ·))) = true := by kernel_rfl
theorem derivTouchesFact22 : ((Rows.derivTouchesRow.plainKeys == Tryz.pinned.checked.prog.plainKeys)) = true := by kernel_rfl
theorem derivTouchesFact23 : (Rows.derivTouchesRow.shortTexts.isNone) = true := by kernel_rfl
theorem derivTouchesFact24 : (Tryz.pinned.checked.prog.stopsHeard) = true := by kernel_rfl
theorem derivTouchesFact25 : (Tryz.pinned.checked.prog.mayEnter) = true := by kernel_rfl
theorem derivTouchesFact26 : ((Rows.derivTouchesRow.lifted == Tryz.pinned.checked.prog.liftsFinal)) = true := by kernel_rfl
theorem derivTouchesFact27 : ((Tryz.pinned.checked.prog.make == some Rows.derivTouchesRow.make)) = true := by kernel_rfl
theorem derivTouchesFact28 : ((Rows.derivTouchesRow.kinds == (if Rows.derivTouchesRow.domain.isEmpty then [] else Tryz.f4.params.toList.map fun t => match Tryz.pinned.checked.prog.underlying t with | some (.int k) => some k | _ => none))) = true := by kernel_rfl
theorem derivTouchesFact29 : ((Rows.derivTouchesRow.pinned == Rows.derivTouchesRow.pinnedBy)) = true := by kernel_rfl
theorem derivTouchesFact30 : ((Rows.derivTouchesRow.veiled == (Tryz.f4.params.toList ++ Rows.derivTouchesSpec.plain.varTypes Tryz.pinned.checked.prog ++ Tryz.f4.resultTypes.toList).any (Tryz.pinned.checked.prog.veiledRec ·))) = true := by kernel_rfl
theorem derivTouchesFact31 : (Rows.derivTouchesRow.veiledFits Tryz.pinned.checked.prog Tryz.f4.params.toList (Tryz.f4.params.toList ++ Rows.derivTouchesSpec.plain.varTypes Tryz.pinned.checked.prog ++ Tryz.f4.resultTypes.toList)) = true := by kernel_rfl
theorem derivTouchesClosed : joinedFacts Tryz.pinned.checked.prog 4 Tryz.f4 Rows.derivTouchesSpec Rows.derivTouchesRow = true := (and2 (and2 (and2 (and2 (and2 (and2 (and2 (and2 (and2 (and2 (and2 (and2 (and2 (and2 (and2 (and2 (and2 (and2 (and2 (and2 (and2 (and2 (and2 (and2 (and2 (and2 (and2 (and2 (and2 (and2 (and2 derivTouchesFact0 derivTouchesFact1) derivTouchesFact2) derivTouchesFact3) derivTouchesFact4) derivTouchesFact5) derivTouchesFact6) derivTouchesFact7) derivTouchesFact8) derivTouchesFact9) derivTouchesFact10) derivTouchesFact11) derivTouchesFact12) derivTouchesFact13) derivTouchesFact14) derivTouchesFact15) derivTouchesFact16) derivTouchesFact17) derivTouchesFact18) derivTouchesFact19) derivTouchesFact20) derivTouchesFact21) derivTouchesFact22) derivTouchesFact23) derivTouchesFact24) derivTouchesFact25) derivTouchesFact26) derivTouchesFact27) derivTouchesFact28) derivTouchesFact29) derivTouchesFact30) derivTouchesFact31)
end Go.Proofs.YtphmjdnljmhipaaGreatDoor
