/- More closed facts of the row of WatchCaught. -/
import Derived.Test.YtejdliehekjicaaGreatRows
import Derived.KernelRfl
set_option maxRecDepth 100000
namespace Go.Proofs.YtejdliehekjicaaGreat
open Go
theorem watchCaughtGfn:Tryz.pinned.checked.prog.funcNamed Rows.watchCaughtRow.func=some 4:=by kernel_rfl
theorem watchCaughtGinst:Tryz.f4.isInstance Tryz.pinned.checked.prog Rows.watchCaughtRow.origin Rows.watchCaughtRow.targs:=of_decide_eq_true (by kernel_rfl)
theorem watchCaughtGwrap:Tryz.f4.isWrapper Tryz.pinned.checked.prog Rows.watchCaughtRow.wrapper Rows.watchCaughtRow.mainSum:=by
 unfold Func.isWrapper;first | (rw[if_pos (by decide +kernel)];kernel_rfl) | (rw[if_neg (by decide +kernel)];exact⟨rfl,rfl⟩)
end Go.Proofs.YtejdliehekjicaaGreat
