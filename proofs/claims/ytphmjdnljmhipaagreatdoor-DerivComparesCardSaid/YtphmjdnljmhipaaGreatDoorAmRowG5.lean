/- More closed facts of the row and the card of DerivCompares. -/
import Derived.Test.YtphmjdnljmhipaaGreatDoorRows
import Derived.Test.YtphmjdnljmhipaaGreatDoorCards
import Derived.SevenTiedAt
import Derived.KernelRfl
set_option linter.unusedSimpArgs false
set_option linter.unusedVariables false
set_option maxRecDepth 100000
namespace Go.Proofs.YtphmjdnljmhipaaGreatDoor
open Go
theorem derivComparesGfn : Tryz.pinned.checked.prog.funcNamed Rows.derivComparesRow.func = some 5 := by kernel_rfl
theorem derivComparesGinst : Tryz.f5.isInstance Tryz.pinned.checked.prog Rows.derivComparesRow.origin Rows.derivComparesRow.targs := of_decide_eq_true (by kernel_rfl)
theorem derivComparesGwrap : Tryz.f5.isWrapper Tryz.pinned.checked.prog Rows.derivComparesRow.wrapper Rows.derivComparesRow.mainSum := by
 unfold Func.isWrapper; first | (rw [if_pos (by decide +kernel)]; kernel_rfl) | (rw [if_neg (by decide +kernel)]; exact ⟨rfl, rfl⟩)
theorem derivComparesGwf : Rows.derivComparesRow.wfByText (OpenSpec.ofChange Rows.derivComparesSpec) = true := by kernel_rfl
theorem derivComparesGmain : Tryz.pinned.checked.prog.mainIs = some (true, ("958fdc8dc98ace963a9a757482de460f39a16f955b3339391b41e13669475ba2" : String).toList) := by kernel_rfl
theorem derivComparesGlooks : true = Tryz.pinned.checked.prog.looks [] := by kernel_rfl
theorem derivComparesGgoes : false = Rows.derivComparesRow.goesBy Tryz.pinned.checked.prog := by kernel_rfl
theorem derivComparesGstand : Tryz.pinned.checked.prog.wantsStandIn 25 = false := by kernel_rfl
end Go.Proofs.YtphmjdnljmhipaaGreatDoor
