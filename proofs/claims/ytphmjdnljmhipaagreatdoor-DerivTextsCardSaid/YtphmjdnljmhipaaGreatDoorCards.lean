/-
  DERIVED. GIVEN WITH THE SEED: THE CARDS: each row of YtphmjdnljmhipaaGreatDoorRows.lean that lists a variable, with what it lists TIED to the program's text (the seventh form; the later family's looks); each row that meets fmt, with fmt's text TOLD by the authors' own Lean function (tested against real Go, not proved from fmt's source: count such statements apart). THE CARD IS WHAT COUNTS. Prove the row's statement (the work); the ties are given (YtphmjdnljmhipaaGreatDoorTie.lean); close each card by the builder's one call (the guide's Derived/Test/ToyasCard.lean, 'card_holds'). Laid BY PROGRAM, IN A SANDBOX (cutbox-door.mjs). By AI agents, Wed Nov 11 2026. No macro, syntax, notation, axiom, sorry.
-/
import Derived.Test.YtphmjdnljmhipaaGreatDoorRows
import GoSem.ClaimSeven
namespace Go.Proofs.YtphmjdnljmhipaaGreatDoor
namespace Rows

/-- THE TIED CARD OF 'madrigallaw16.DerivOrder'. -/
def derivOrderCard : Claim7 := { stood := { row := derivOrderRow, standIns := [], harness := (true, "958fdc8dc98ace963a9a757482de460f39a16f955b3339391b41e13669475ba2"), looks := true }, kinds := [], alts := [], laidByText := true, laidKinds := [.data, .data, .data], laidTests := true, laidLooks := .later }
def DerivOrderCardSaid : Prop := Claim7.holds Tryz.pinned (.plain (OpenSpec.ofChange derivOrderSpec)) derivOrderCard

/-- THE TIED CARD OF 'madrigallaw16.DerivTouches'. -/
def derivTouchesCard : Claim7 := { stood := { row := derivTouchesRow, standIns := [], harness := (true, "958fdc8dc98ace963a9a757482de460f39a16f955b3339391b41e13669475ba2"), looks := true }, kinds := [], alts := [], laidByText := true, laidKinds := [.data, .data, .data], laidTests := true, laidLooks := .later }
def DerivTouchesCardSaid : Prop := Claim7.holds Tryz.pinned (.plain (OpenSpec.ofChange derivTouchesSpec)) derivTouchesCard

/-- THE TIED CARD OF 'madrigallaw16.DerivCompares'. -/
def derivComparesCard : Claim7 := { stood := { row := derivComparesRow, standIns := [], harness := (true, "958fdc8dc98ace963a9a757482de460f39a16f955b3339391b41e13669475ba2"), looks := true }, kinds := [], alts := [], laidByText := true, laidKinds := [.data, .data, .data], laidTests := true, laidLooks := .later }
def DerivComparesCardSaid : Prop := Claim7.holds Tryz.pinned (.plain (OpenSpec.ofChange derivComparesSpec)) derivComparesCard

/-- THE TIED CARD OF 'madrigallaw16.DerivTexts'. -/
def derivTextsCard : Claim7 := { stood := { row := derivTextsRow, standIns := [], harness := (true, "958fdc8dc98ace963a9a757482de460f39a16f955b3339391b41e13669475ba2"), looks := true }, kinds := [], alts := [], laidByText := true, laidKinds := [.data, .data, .data], laidTests := true, laidLooks := .later }
def DerivTextsCardSaid : Prop := Claim7.holds Tryz.pinned (.plain (OpenSpec.ofChange derivTextsSpec)) derivTextsCard

/-- THE SECOND FORM's CARD OF 'madrigallaw16.DerivOrder'. -/
def derivOrderUptoCard : Claim7 := { stood := { row := derivOrderUptoRow, standIns := [], harness := (true, "958fdc8dc98ace963a9a757482de460f39a16f955b3339391b41e13669475ba2"), looks := true }, kinds := [], alts := [], laidByText := true, laidKinds := [.data, .data, .data], laidTests := true, laidLooks := .later }
def DerivOrderUptoCardSaid : Prop := Claim7.holds Tryz.pinned (.plain (OpenSpec.upto derivOrderSpec)) derivOrderUptoCard

/-- THE SECOND FORM's CARD OF 'madrigallaw16.DerivTouches'. -/
def derivTouchesUptoCard : Claim7 := { stood := { row := derivTouchesUptoRow, standIns := [], harness := (true, "958fdc8dc98ace963a9a757482de460f39a16f955b3339391b41e13669475ba2"), looks := true }, kinds := [], alts := [], laidByText := true, laidKinds := [.data, .data, .data], laidTests := true, laidLooks := .later }
def DerivTouchesUptoCardSaid : Prop := Claim7.holds Tryz.pinned (.plain (OpenSpec.upto derivTouchesSpec)) derivTouchesUptoCard

/-- THE SECOND FORM's CARD OF 'madrigallaw16.DerivCompares'. -/
def derivComparesUptoCard : Claim7 := { stood := { row := derivComparesUptoRow, standIns := [], harness := (true, "958fdc8dc98ace963a9a757482de460f39a16f955b3339391b41e13669475ba2"), looks := true }, kinds := [], alts := [], laidByText := true, laidKinds := [.data, .data, .data], laidTests := true, laidLooks := .later }
def DerivComparesUptoCardSaid : Prop := Claim7.holds Tryz.pinned (.plain (OpenSpec.upto derivComparesSpec)) derivComparesUptoCard

/-- THE SECOND FORM's CARD OF 'madrigallaw16.DerivTexts'. -/
def derivTextsUptoCard : Claim7 := { stood := { row := derivTextsUptoRow, standIns := [], harness := (true, "958fdc8dc98ace963a9a757482de460f39a16f955b3339391b41e13669475ba2"), looks := true }, kinds := [], alts := [], laidByText := true, laidKinds := [.data, .data, .data], laidTests := true, laidLooks := .later }
def DerivTextsUptoCardSaid : Prop := Claim7.holds Tryz.pinned (.plain (OpenSpec.upto derivTextsSpec)) derivTextsUptoCard
end Rows
end Go.Proofs.YtphmjdnljmhipaaGreatDoor
