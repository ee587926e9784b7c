/- More closed facts of the row of WatchAsCome. -/
import Derived.Test.YtejdliehekjicaaGreatRows
import Derived.KernelRfl
set_option maxRecDepth 100000
namespace Go.Proofs.YtejdliehekjicaaGreat
open Go
theorem watchAsComeGfn:Tryz.pinned.checked.prog.funcNamed Rows.watchAsComeRow.func=some 5:=by kernel_rfl
theorem watchAsComeGinst:Tryz.f5.isInstance Tryz.pinned.checked.prog Rows.watchAsComeRow.origin Rows.watchAsComeRow.targs:=of_decide_eq_true (by kernel_rfl)
theorem watchAsComeGwrap:Tryz.f5.isWrapper Tryz.pinned.checked.prog Rows.watchAsComeRow.wrapper Rows.watchAsComeRow.mainSum:=by
 unfold Func.isWrapper;first | (rw[if_pos (by decide +kernel)];kernel_rfl) | (rw[if_neg (by decide +kernel)];exact⟨rfl,rfl⟩)
end Go.Proofs.YtejdliehekjicaaGreat
