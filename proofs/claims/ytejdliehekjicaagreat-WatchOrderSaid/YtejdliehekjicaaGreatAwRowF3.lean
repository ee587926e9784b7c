/- The closed facts of the row of WatchOrder, one by one. Made by program. -/
import Derived.Test.YtejdliehekjicaaGreatRows
import Derived.JoinedOf
import Derived.KernelRfl
set_option maxRecDepth 100000
namespace Go.Proofs.YtejdliehekjicaaGreat
open Go
theorem and2{a b:Bool}(h:a=true)(k:b=true):(a&&b)=true:=by rw[h,k];rfl
theorem watchOrderFact0:(Rows.watchOrderRow.wf (OpenSpec.ofChange Rows.watchOrderSpec))=true:=by kernel_rfl
theorem watchOrderFact1:(laidOutB Tryz.pinned.checked.prog)=true:=by kernel_rfl
theorem watchOrderFact2:(mapsRowed Tryz.pinned.checked.prog)=true:=by kernel_rfl
theorem watchOrderFact3:(Tryz.f3.params.all (Tryz.pinned.checked.prog.readableRec ·))=true:=by kernel_rfl
theorem watchOrderFact4:(namedTie Tryz.pinned.checked.prog Rows.watchOrderRow.named Rows.watchOrderSpec.vars)=true:=by kernel_rfl
theorem watchOrderFact5:((Rows.watchOrderRow.stops==[]))=true:=by kernel_rfl
theorem watchOrderFact6:((Tryz.pinned.checked.prog.stops==[]))=true:=by kernel_rfl
theorem watchOrderFact7:((Rows.watchOrderRow.knobs==[]))=true:=by kernel_rfl
theorem watchOrderFact8:((Tryz.pinned.checked.prog.stopKnobs==[]))=true:=by kernel_rfl
theorem watchOrderFact9:((Rows.watchOrderRow.inPlace==Tryz.pinned.checked.prog.inPlace 3))=true:=by kernel_rfl
theorem watchOrderFact10:((Rows.watchOrderRow.unfollowed==Tryz.pinned.checked.prog.unfollowed 3))=true:=by kernel_rfl
theorem watchOrderFact11:((Rows.watchOrderRow.recurses==Tryz.pinned.checked.prog.recurses 3))=true:=by kernel_rfl
theorem watchOrderFact12:((Rows.watchOrderRow.named==Tryz.pinned.checked.prog.varsNamed 3))=true:=by kernel_rfl
theorem watchOrderFact13:((Rows.watchOrderRow.maps==(Tryz.f3.params.toList++Rows.watchOrderSpec.plain.varTypes Tryz.pinned.checked.prog).any (Tryz.pinned.checked.prog.mapsRec ·)))=true:=by kernel_rfl
theorem watchOrderFact14:((Rows.watchOrderRow.ifaces==(Tryz.f3.params.toList++Rows.watchOrderSpec.plain.varTypes Tryz.pinned.checked.prog).any (Tryz.pinned.checked.prog.ifacesRec ·)))=true:=by kernel_rfl
theorem watchOrderFact15:((Rows.watchOrderRow.mapsOut==Tryz.pinned.checked.prog.mapsAmong Tryz.f3.resultTypes.toList))=true:=by kernel_rfl
theorem watchOrderFact16:((Rows.watchOrderRow.loops==(Tryz.f3.params.toList++Rows.watchOrderSpec.plain.varTypes Tryz.pinned.checked.prog).any (Tryz.pinned.checked.prog.loopsFrom ·)))=true:=by kernel_rfl
theorem watchOrderFact17:((Rows.watchOrderRow.wideKeys==(Tryz.f3.params.toList++Rows.watchOrderSpec.plain.varTypes Tryz.pinned.checked.prog++Tryz.f3.resultTypes.toList).any (Tryz.pinned.checked.prog.wideKeysFrom ·)))=true:=by kernel_rfl
theorem watchOrderFact18:(Rows.watchOrderSpec.vars.all (Tryz.pinned.checked.prog.varReadable ·))=true:=by kernel_rfl
theorem watchOrderFact19:(Tryz.f3.resultTypes.all (fun t=>Tryz.pinned.checked.prog.readableRec t&&decide (t < Tryz.pinned.checked.prog.types.size)))=true:=by kernel_rfl
theorem watchOrderFact20:((Rows.watchOrderRow.ifacesOut==Tryz.f3.resultTypes.toList.any (Tryz.pinned.checked.prog.ifacesRec ·)))=true:=by kernel_rfl
theorem watchOrderFact21:((Rows.watchOrderRow.loopsOut==Tryz.f3.resultTypes.toList.any (Tryz.pinned.checked.prog.loopsFrom ·)))=true:=by kernel_rfl
theorem watchOrderFact22:((Rows.watchOrderRow.plainKeys==Tryz.pinned.checked.prog.plainKeys))=true:=by kernel_rfl
theorem watchOrderFact23:(Rows.watchOrderRow.shortTexts.isNone)=true:=by kernel_rfl
theorem watchOrderFact24:(Tryz.pinned.checked.prog.stopsHeard)=true:=by kernel_rfl
theorem watchOrderFact25:(Tryz.pinned.checked.prog.mayEnter)=true:=by kernel_rfl
theorem watchOrderFact26:((Rows.watchOrderRow.lifted==Tryz.pinned.checked.prog.liftsFinal))=true:=by kernel_rfl
theorem watchOrderFact27:((Tryz.pinned.checked.prog.make==some Rows.watchOrderRow.make))=true:=by kernel_rfl
theorem watchOrderFact28:((Rows.watchOrderRow.kinds==(if Rows.watchOrderRow.domain.isEmpty then [] else Tryz.f3.params.toList.map fun t=>match Tryz.pinned.checked.prog.underlying t with | some (.int k)=>some k | _=>none)))=true:=by kernel_rfl
theorem watchOrderFact29:((Rows.watchOrderRow.pinned==Rows.watchOrderRow.pinnedBy))=true:=by kernel_rfl
theorem watchOrderFact30:((Rows.watchOrderRow.veiled==(Tryz.f3.params.toList++Rows.watchOrderSpec.plain.varTypes Tryz.pinned.checked.prog++Tryz.f3.resultTypes.toList).any (Tryz.pinned.checked.prog.veiledRec ·)))=true:=by kernel_rfl
theorem watchOrderFact31:(Rows.watchOrderRow.veiledFits Tryz.pinned.checked.prog Tryz.f3.params.toList (Tryz.f3.params.toList++Rows.watchOrderSpec.plain.varTypes Tryz.pinned.checked.prog++Tryz.f3.resultTypes.toList))=true:=by kernel_rfl
theorem watchOrderClosed:joinedFacts Tryz.pinned.checked.prog 3 Tryz.f3 Rows.watchOrderSpec Rows.watchOrderRow=true:=(and2 (and2 (and2 (and2 (and2 (and2 (and2 (and2 (and2 (and2 (and2 (and2 (and2 (and2 (and2 (and2 (and2 (and2 (and2 (and2 (and2 (and2 (and2 (and2 (and2 (and2 (and2 (and2 (and2 (and2 (and2 watchOrderFact0 watchOrderFact1) watchOrderFact2) watchOrderFact3) watchOrderFact4) watchOrderFact5) watchOrderFact6) watchOrderFact7) watchOrderFact8) watchOrderFact9) watchOrderFact10) watchOrderFact11) watchOrderFact12) watchOrderFact13) watchOrderFact14) watchOrderFact15) watchOrderFact16) watchOrderFact17) watchOrderFact18) watchOrderFact19) watchOrderFact20) watchOrderFact21) watchOrderFact22) watchOrderFact23) watchOrderFact24) watchOrderFact25) watchOrderFact26) watchOrderFact27) watchOrderFact28) watchOrderFact29) watchOrderFact30) watchOrderFact31)
end Go.Proofs.YtejdliehekjicaaGreat
