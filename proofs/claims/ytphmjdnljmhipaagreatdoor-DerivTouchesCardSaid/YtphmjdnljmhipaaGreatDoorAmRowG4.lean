/- More closed facts of the row and the card of DerivTouches. -/
import Derived.Test.YtphmjdnljmhipaaGreatDoorRows
import Derived.Test.YtphmjdnljmhipaaGreatDoorCards
import Derived.SevenTiedAt
import Derived.KernelRfl
set_option linter.unusedSimpArgs false
set_option linter.unusedVariables false
set_option linter.defProp false
set_option maxRecDepth 100000
namespace Go.Proofs.YtphmjdnljmhipaaGreatDoor
open Go
theorem derivTouchesGfn : Tryz.pinned.checked.prog.funcNamed Rows.derivTouchesRow.func = some 4 := by kernel_rfl
theorem derivTouchesGinst : Tryz.f4.isInstance Tryz.pinned.checked.prog Rows.derivTouchesRow.origin Rows.derivTouchesRow.targs := of_decide_eq_true (by kernel_rfl)
theorem derivTouchesGwrap : Tryz.f4.isWrapper Tryz.pinned.checked.prog Rows.derivTouchesRow.wrapper Rows.derivTouchesRow.mainSum := by
  unfold Func.isWrapper; first | (rw [if_pos (by decide +kernel)]; kernel_rfl) | (rw [if_neg (by decide +kernel)]; exact ⟨rfl, rfl⟩)
theorem derivTouchesGwf : Rows.derivTouchesRow.wfByText (OpenSpec.ofChange Rows.derivTouchesSpec) = true := by kernel_rfl
theorem derivTouchesGmain : Tryz.pinned.checked.prog.mainIs = some (true, ("958fdc8dc98ace963a9a757482de460f39a16f955b3339391b41e13669475ba2" : String).toList) := by kernel_rfl
theorem derivTouchesGlooks : true = Tryz.pinned.checked.prog.looks [] := by kernel_rfl
theorem derivTouchesGgoes : false = Rows.derivTouchesRow.goesBy Tryz.pinned.checked.prog := by kernel_rfl
theorem derivTouchesGstand : Tryz.pinned.checked.prog.wantsStandIn 25 = false := by kernel_rfl
theorem derivTouchesGmayEnter : Tryz.pinned.checked.prog.inits.idxOf? 4 = none := by kernel_rfl
end Go.Proofs.YtphmjdnljmhipaaGreatDoor
