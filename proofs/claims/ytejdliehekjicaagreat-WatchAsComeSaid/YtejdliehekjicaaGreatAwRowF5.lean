/- The closed facts of the row of WatchAsCome, one by one. Made by program. -/
import Derived.Test.YtejdliehekjicaaGreatRows
import Derived.JoinedOf
import Derived.KernelRfl
set_option maxRecDepth 100000
namespace Go.Proofs.YtejdliehekjicaaGreat
open Go
theorem and2{a b:Bool}(h:a=true)(k:b=true):(a&&b)=true:=by rw[h,k];rfl
theorem watchAsComeFact0:(Rows.watchAsComeRow.wf (OpenSpec.ofChange Rows.watchAsComeSpec))=true:=by kernel_rfl
theorem watchAsComeFact1:(laidOutB Tryz.pinned.checked.prog)=true:=by kernel_rfl
theorem watchAsComeFact2:(mapsRowed Tryz.pinned.checked.prog)=true:=by kernel_rfl
theorem watchAsComeFact3:(Tryz.f5.params.all (Tryz.pinned.checked.prog.readableRec ·))=true:=by kernel_rfl
theorem watchAsComeFact4:(namedTie Tryz.pinned.checked.prog Rows.watchAsComeRow.named Rows.watchAsComeSpec.vars)=true:=by kernel_rfl
theorem watchAsComeFact5:((Rows.watchAsComeRow.stops==[]))=true:=by kernel_rfl
theorem watchAsComeFact6:((Tryz.pinned.checked.prog.stops==[]))=true:=by kernel_rfl
theorem watchAsComeFact7:((Rows.watchAsComeRow.knobs==[]))=true:=by kernel_rfl
theorem watchAsComeFact8:((Tryz.pinned.checked.prog.stopKnobs==[]))=true:=by kernel_rfl
theorem watchAsComeFact9:((Rows.watchAsComeRow.inPlace==Tryz.pinned.checked.prog.inPlace 5))=true:=by kernel_rfl
theorem watchAsComeFact10:((Rows.watchAsComeRow.unfollowed==Tryz.pinned.checked.prog.unfollowed 5))=true:=by kernel_rfl
theorem watchAsComeFact11:((Rows.watchAsComeRow.recurses==Tryz.pinned.checked.prog.recurses 5))=true:=by kernel_rfl
theorem watchAsComeFact12:((Rows.watchAsComeRow.named==Tryz.pinned.checked.prog.varsNamed 5))=true:=by kernel_rfl
theorem watchAsComeFact13:((Rows.watchAsComeRow.maps==(Tryz.f5.params.toList++Rows.watchAsComeSpec.plain.varTypes Tryz.pinned.checked.prog).any (Tryz.pinned.checked.prog.mapsRec ·)))=true:=by kernel_rfl
theorem watchAsComeFact14:((Rows.watchAsComeRow.ifaces==(Tryz.f5.params.toList++Rows.watchAsComeSpec.plain.varTypes Tryz.pinned.checked.prog).any (Tryz.pinned.checked.prog.ifacesRec ·)))=true:=by kernel_rfl
theorem watchAsComeFact15:((Rows.watchAsComeRow.mapsOut==Tryz.pinned.checked.prog.mapsAmong Tryz.f5.resultTypes.toList))=true:=by kernel_rfl
theorem watchAsComeFact16:((Rows.watchAsComeRow.loops==(Tryz.f5.params.toList++Rows.watchAsComeSpec.plain.varTypes Tryz.pinned.checked.prog).any (Tryz.pinned.checked.prog.loopsFrom ·)))=true:=by kernel_rfl
theorem watchAsComeFact17:((Rows.watchAsComeRow.wideKeys==(Tryz.f5.params.toList++Rows.watchAsComeSpec.plain.varTypes Tryz.pinned.checked.prog++Tryz.f5.resultTypes.toList).any (Tryz.pinned.checked.prog.wideKeysFrom ·)))=true:=by kernel_rfl
theorem watchAsComeFact18:(Rows.watchAsComeSpec.vars.all (Tryz.pinned.checked.prog.varReadable ·))=true:=by kernel_rfl
theorem watchAsComeFact19:(Tryz.f5.resultTypes.all (fun t=>Tryz.pinned.checked.prog.readableRec t&&decide (t < Tryz.pinned.checked.prog.types.size)))=true:=by kernel_rfl
theorem watchAsComeFact20:((Rows.watchAsComeRow.ifacesOut==Tryz.f5.resultTypes.toList.any (Tryz.pinned.checked.prog.ifacesRec ·)))=true:=by kernel_rfl
theorem watchAsComeFact21:((Rows.watchAsComeRow.loopsOut==Tryz.f5.resultTypes.toList.any (Tryz.pinned.checked.prog.loopsFrom ·)))=true:=by kernel_rfl
theorem watchAsComeFact22:((Rows.watchAsComeRow.plainKeys==Tryz.pinned.checked.prog.plainKeys))=true:=by kernel_rfl
theorem watchAsComeFact23:(Rows.watchAsComeRow.shortTexts.isNone)=true:=by kernel_rfl
theorem watchAsComeFact24:(Tryz.pinned.checked.prog.stopsHeard)=true:=by kernel_rfl
theorem watchAsComeFact25:(Tryz.pinned.checked.prog.mayEnter)=true:=by kernel_rfl
theorem watchAsComeFact26:((Rows.watchAsComeRow.lifted==Tryz.pinned.checked.prog.liftsFinal))=true:=by kernel_rfl
theorem watchAsComeFact27:((Tryz.pinned.checked.prog.make==some Rows.watchAsComeRow.make))=true:=by kernel_rfl
theorem watchAsComeFact28:((Rows.watchAsComeRow.kinds==(if Rows.watchAsComeRow.domain.isEmpty then [] else Tryz.f5.params.toList.map fun t=>match Tryz.pinned.checked.prog.underlying t with | some (.int k)=>some k | _=>none)))=true:=by kernel_rfl
theorem watchAsComeFact29:((Rows.watchAsComeRow.pinned==Rows.watchAsComeRow.pinnedBy))=true:=by kernel_rfl
theorem watchAsComeFact30:((Rows.watchAsComeRow.veiled==(Tryz.f5.params.toList++Rows.watchAsComeSpec.plain.varTypes Tryz.pinned.checked.prog++Tryz.f5.resultTypes.toList).any (Tryz.pinned.checked.prog.veiledRec ·)))=true:=by kernel_rfl
theorem watchAsComeFact31:(Rows.watchAsComeRow.veiledFits Tryz.pinned.checked.prog Tryz.f5.params.toList (Tryz.f5.params.toList++Rows.watchAsComeSpec.plain.varTypes Tryz.pinned.checked.prog++Tryz.f5.resultTypes.toList))=true:=by kernel_rfl
theorem watchAsComeClosed:joinedFacts Tryz.pinned.checked.prog 5 Tryz.f5 Rows.watchAsComeSpec Rows.watchAsComeRow=true:=(and2 (and2 (and2 (and2 (and2 (and2 (and2 (and2 (and2 (and2 (and2 (and2 (and2 (and2 (and2 (and2 (and2 (and2 (and2 (and2 (and2 (and2 (and2 (and2 (and2 (and2 (and2 (and2 (and2 (and2 (and2 watchAsComeFact0 watchAsComeFact1) watchAsComeFact2) watchAsComeFact3) watchAsComeFact4) watchAsComeFact5) watchAsComeFact6) watchAsComeFact7) watchAsComeFact8) watchAsComeFact9) watchAsComeFact10) watchAsComeFact11) watchAsComeFact12) watchAsComeFact13) watchAsComeFact14) watchAsComeFact15) watchAsComeFact16) watchAsComeFact17) watchAsComeFact18) watchAsComeFact19) watchAsComeFact20) watchAsComeFact21) watchAsComeFact22) watchAsComeFact23) watchAsComeFact24) watchAsComeFact25) watchAsComeFact26) watchAsComeFact27) watchAsComeFact28) watchAsComeFact29) watchAsComeFact30) watchAsComeFact31)
end Go.Proofs.YtejdliehekjicaaGreat
