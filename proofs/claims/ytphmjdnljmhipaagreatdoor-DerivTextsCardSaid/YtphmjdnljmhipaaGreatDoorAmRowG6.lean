/- More closed facts of the row and the card of DerivTexts. -/
import Derived.Test.YtphmjdnljmhipaaGreatDoorRows
import Derived.Test.YtphmjdnljmhipaaGreatDoorCards
import Derived.SevenTiedAt
import Derived.KernelRfl
set_option linter.unusedSimpArgs false
set_option linter.unusedVariables false
set_option maxRecDepth 100000
namespace Go.Proofs.YtphmjdnljmhipaaGreatDoor
open Go
theorem derivTextsGfn : Tryz.pinned.checked.prog.funcNamed Rows.derivTextsRow.func = some 6 := by kernel_rfl
theorem derivTextsGinst : Tryz.f6.isInstance Tryz.pinned.checked.prog Rows.derivTextsRow.origin Rows.derivTextsRow.targs := of_decide_eq_true (by kernel_rfl)
theorem derivTextsGwrap : Tryz.f6.isWrapper Tryz.pinned.checked.prog Rows.derivTextsRow.wrapper Rows.derivTextsRow.mainSum := by
 unfold Func.isWrapper; first | (rw [if_pos (by decide +kernel)]; kernel_rfl) | (rw [if_neg (by decide +kernel)]; exact ⟨rfl, rfl⟩)
theorem derivTextsGwf : Rows.derivTextsRow.wfByText (OpenSpec.ofChange Rows.derivTextsSpec) = true := by kernel_rfl
theorem derivTextsGmain : Tryz.pinned.checked.prog.mainIs = some (true, ("958fdc8dc98ace963a9a757482de460f39a16f955b3339391b41e13669475ba2" : String).toList) := by kernel_rfl
theorem derivTextsGlooks : true = Tryz.pinned.checked.prog.looks [] := by kernel_rfl
theorem derivTextsGgoes : false = Rows.derivTextsRow.goesBy Tryz.pinned.checked.prog := by kernel_rfl
theorem derivTextsGstand : Tryz.pinned.checked.prog.wantsStandIn 25 = false := by kernel_rfl
end Go.Proofs.YtphmjdnljmhipaaGreatDoor
