/- The closed facts of the row of WatchCaught, one by one. Made by program. -/
import Derived.Test.YtejdliehekjicaaGreatRows
import Derived.JoinedOf
import Derived.KernelRfl
set_option maxRecDepth 100000
namespace Go.Proofs.YtejdliehekjicaaGreat
open Go
theorem and2{a b:Bool}(h:a=true)(k:b=true):(a&&b)=true:=by rw[h,k];rfl
theorem watchCaughtFact0:(Rows.watchCaughtRow.wf (OpenSpec.ofChange Rows.watchCaughtSpec))=true:=by kernel_rfl
theorem watchCaughtFact1:(laidOutB Tryz.pinned.checked.prog)=true:=by kernel_rfl
theorem watchCaughtFact2:(mapsRowed Tryz.pinned.checked.prog)=true:=by kernel_rfl
theorem watchCaughtFact3:(Tryz.f4.params.all (Tryz.pinned.checked.prog.readableRec ·))=true:=by kernel_rfl
theorem watchCaughtFact4:(namedTie Tryz.pinned.checked.prog Rows.watchCaughtRow.named Rows.watchCaughtSpec.vars)=true:=by kernel_rfl
theorem watchCaughtFact5:((Rows.watchCaughtRow.stops==[]))=true:=by kernel_rfl
theorem watchCaughtFact6:((Tryz.pinned.checked.prog.stops==[]))=true:=by kernel_rfl
theorem watchCaughtFact7:((Rows.watchCaughtRow.knobs==[]))=true:=by kernel_rfl
theorem watchCaughtFact8:((Tryz.pinned.checked.prog.stopKnobs==[]))=true:=by kernel_rfl
theorem watchCaughtFact9:((Rows.watchCaughtRow.inPlace==Tryz.pinned.checked.prog.inPlace 4))=true:=by kernel_rfl
theorem watchCaughtFact10:((Rows.watchCaughtRow.unfollowed==Tryz.pinned.checked.prog.unfollowed 4))=true:=by kernel_rfl
theorem watchCaughtFact11:((Rows.watchCaughtRow.recurses==Tryz.pinned.checked.prog.recurses 4))=true:=by kernel_rfl
theorem watchCaughtFact12:((Rows.watchCaughtRow.named==Tryz.pinned.checked.prog.varsNamed 4))=true:=by kernel_rfl
theorem watchCaughtFact13:((Rows.watchCaughtRow.maps==(Tryz.f4.params.toList++Rows.watchCaughtSpec.plain.varTypes Tryz.pinned.checked.prog).any (Tryz.pinned.checked.prog.mapsRec ·)))=true:=by kernel_rfl
theorem watchCaughtFact14:((Rows.watchCaughtRow.ifaces==(Tryz.f4.params.toList++Rows.watchCaughtSpec.plain.varTypes Tryz.pinned.checked.prog).any (Tryz.pinned.checked.prog.ifacesRec ·)))=true:=by kernel_rfl
theorem watchCaughtFact15:((Rows.watchCaughtRow.mapsOut==Tryz.pinned.checked.prog.mapsAmong Tryz.f4.resultTypes.toList))=true:=by kernel_rfl
theorem watchCaughtFact16:((Rows.watchCaughtRow.loops==(Tryz.f4.params.toList++Rows.watchCaughtSpec.plain.varTypes Tryz.pinned.checked.prog).any (Tryz.pinned.checked.prog.loopsFrom ·)))=true:=by kernel_rfl
theorem watchCaughtFact17:((Rows.watchCaughtRow.wideKeys==(Tryz.f4.params.toList++Rows.watchCaughtSpec.plain.varTypes Tryz.pinned.checked.prog++Tryz.f4.resultTypes.toList).any (Tryz.pinned.checked.prog.wideKeysFrom ·)))=true:=by kernel_rfl
theorem watchCaughtFact18:(Rows.watchCaughtSpec.vars.all (Tryz.pinned.checked.prog.varReadable ·))=true:=by kernel_rfl
theorem watchCaughtFact19:(Tryz.f4.resultTypes.all (fun t=>Tryz.pinned.checked.prog.readableRec t&&decide (t < Tryz.pinned.checked.prog.types.size)))=true:=by kernel_rfl
theorem watchCaughtFact20:((Rows.watchCaughtRow.ifacesOut==Tryz.f4.resultTypes.toList.any (Tryz.pinned.checked.prog.ifacesRec ·)))=true:=by kernel_rfl
theorem watchCaughtFact21:((Rows.watchCaughtRow.loopsOut==Tryz.f4.resultTypes.toList.any (Tryz.pinned.checked.prog.loopsFrom ·)))=true:=by kernel_rfl
theorem watchCaughtFact22:((Rows.watchCaughtRow.plainKeys==Tryz.pinned.checked.prog.plainKeys))=true:=by kernel_rfl
theorem watchCaughtFact23:(Rows.watchCaughtRow.shortTexts.isNone)=true:=by kernel_rfl
theorem watchCaughtFact24:(Tryz.pinned.checked.prog.stopsHeard)=true:=by kernel_rfl
theorem watchCaughtFact25:(Tryz.pinned.checked.prog.mayEnter)=true:=by kernel_rfl
theorem watchCaughtFact26:((Rows.watchCaughtRow.lifted==Tryz.pinned.checked.prog.liftsFinal))=true:=by kernel_rfl
theorem watchCaughtFact27:((Tryz.pinned.checked.prog.make==some Rows.watchCaughtRow.make))=true:=by kernel_rfl
theorem watchCaughtFact28:((Rows.watchCaughtRow.kinds==(if Rows.watchCaughtRow.domain.isEmpty then [] else Tryz.f4.params.toList.map fun t=>match Tryz.pinned.checked.prog.underlying t with | some (.int k)=>some k | _=>none)))=true:=by kernel_rfl
theorem watchCaughtFact29:((Rows.watchCaughtRow.pinned==Rows.watchCaughtRow.pinnedBy))=true:=by kernel_rfl
theorem watchCaughtFact30:((Rows.watchCaughtRow.veiled==(Tryz.f4.params.toList++Rows.watchCaughtSpec.plain.varTypes Tryz.pinned.checked.prog++Tryz.f4.resultTypes.toList).any (Tryz.pinned.checked.prog.veiledRec ·)))=true:=by kernel_rfl
theorem watchCaughtFact31:(Rows.watchCaughtRow.veiledFits Tryz.pinned.checked.prog Tryz.f4.params.toList (Tryz.f4.params.toList++Rows.watchCaughtSpec.plain.varTypes Tryz.pinned.checked.prog++Tryz.f4.resultTypes.toList))=true:=by kernel_rfl
theorem watchCaughtClosed:joinedFacts Tryz.pinned.checked.prog 4 Tryz.f4 Rows.watchCaughtSpec Rows.watchCaughtRow=true:=(and2 (and2 (and2 (and2 (and2 (and2 (and2 (and2 (and2 (and2 (and2 (and2 (and2 (and2 (and2 (and2 (and2 (and2 (and2 (and2 (and2 (and2 (and2 (and2 (and2 (and2 (and2 (and2 (and2 (and2 (and2 watchCaughtFact0 watchCaughtFact1) watchCaughtFact2) watchCaughtFact3) watchCaughtFact4) watchCaughtFact5) watchCaughtFact6) watchCaughtFact7) watchCaughtFact8) watchCaughtFact9) watchCaughtFact10) watchCaughtFact11) watchCaughtFact12) watchCaughtFact13) watchCaughtFact14) watchCaughtFact15) watchCaughtFact16) watchCaughtFact17) watchCaughtFact18) watchCaughtFact19) watchCaughtFact20) watchCaughtFact21) watchCaughtFact22) watchCaughtFact23) watchCaughtFact24) watchCaughtFact25) watchCaughtFact26) watchCaughtFact27) watchCaughtFact28) watchCaughtFact29) watchCaughtFact30) watchCaughtFact31)
end Go.Proofs.YtejdliehekjicaaGreat
