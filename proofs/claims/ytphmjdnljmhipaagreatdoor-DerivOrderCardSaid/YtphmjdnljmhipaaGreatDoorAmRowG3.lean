/- More closed facts of the row and the card of DerivOrder. -/
import Derived.Test.YtphmjdnljmhipaaGreatDoorRows
import Derived.Test.YtphmjdnljmhipaaGreatDoorCards
import Derived.SevenTiedAt
import Derived.KernelRfl
set_option linter.unusedSimpArgs false
set_option linter.unusedVariables false
set_option maxRecDepth 100000
namespace Go.Proofs.YtphmjdnljmhipaaGreatDoor
open Go
theorem derivOrderGfn : Tryz.pinned.checked.prog.funcNamed Rows.derivOrderRow.func = some 3 := by kernel_rfl
theorem derivOrderGinst : Tryz.f3.isInstance Tryz.pinned.checked.prog Rows.derivOrderRow.origin Rows.derivOrderRow.targs := of_decide_eq_true (by kernel_rfl)
theorem derivOrderGwrap : Tryz.f3.isWrapper Tryz.pinned.checked.prog Rows.derivOrderRow.wrapper Rows.derivOrderRow.mainSum := by
  unfold Func.isWrapper; first | (rw [if_pos (by decide +kernel)]; kernel_rfl) | (rw [if_neg (by decide +kernel)]; exact ⟨rfl, rfl⟩)
theorem derivOrderGwf : Rows.derivOrderRow.wfByText (OpenSpec.ofChange Rows.derivOrderSpec) = true := by kernel_rfl
theorem derivOrderGmain : Tryz.pinned.checked.prog.mainIs = some (true, ("958fdc8dc98ace963a9a757482de460f39a16f955b3339391b41e13669475ba2" : String).toList) := by kernel_rfl
theorem derivOrderGlooks : true = Tryz.pinned.checked.prog.looks [] := by kernel_rfl
theorem derivOrderGgoes : false = Rows.derivOrderRow.goesBy Tryz.pinned.checked.prog := by kernel_rfl
theorem derivOrderGstand : Tryz.pinned.checked.prog.wantsStandIn 25 = false := by kernel_rfl
theorem derivOrderGmayEnter : Tryz.pinned.checked.prog.inits.idxOf? 3 = none := by kernel_rfl
end Go.Proofs.YtphmjdnljmhipaaGreatDoor
