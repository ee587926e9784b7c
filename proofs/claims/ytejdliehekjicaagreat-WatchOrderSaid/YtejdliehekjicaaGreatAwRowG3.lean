/- More closed facts of the row of WatchOrder. -/
import Derived.Test.YtejdliehekjicaaGreatRows
import Derived.KernelRfl
set_option maxRecDepth 100000
namespace Go.Proofs.YtejdliehekjicaaGreat
open Go
theorem watchOrderGfn:Tryz.pinned.checked.prog.funcNamed Rows.watchOrderRow.func=some 3:=by kernel_rfl
theorem watchOrderGinst:Tryz.f3.isInstance Tryz.pinned.checked.prog Rows.watchOrderRow.origin Rows.watchOrderRow.targs:=of_decide_eq_true (by kernel_rfl)
theorem watchOrderGwrap:Tryz.f3.isWrapper Tryz.pinned.checked.prog Rows.watchOrderRow.wrapper Rows.watchOrderRow.mainSum:=by
 unfold Func.isWrapper;first | (rw[if_pos (by decide +kernel)];kernel_rfl) | (rw[if_neg (by decide +kernel)];exact⟨rfl,rfl⟩)
end Go.Proofs.YtejdliehekjicaaGreat
