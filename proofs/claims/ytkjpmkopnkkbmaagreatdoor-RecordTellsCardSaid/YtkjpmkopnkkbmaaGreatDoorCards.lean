/-
  DERIVED. GIVEN WITH THE SEED: THE CARDS: each row of YtkjpmkopnkkbmaaGreatDoorRows.lean that lists a variable, with what it lists TIED to the program's text (the seventh form; the later family's looks); each row that meets fmt, with fmt's text TOLD by the authors' own Lean function (tested against real Go, not proved from fmt's source: count such statements apart). THE CARD IS WHAT COUNTS. Prove the row's statement (the work); the ties are given (YtkjpmkopnkkbmaaGreatDoorTie.lean); close each card by the builder's one call (the guide's Derived/Test/ToyasCard.lean, 'card_holds'). Laid BY PROGRAM, IN A SANDBOX (cutbox-door.mjs). By AI agents, Wed Nov 11 2026. No macro, syntax, notation, axiom, sorry.
-/
import Derived.Test.YtkjpmkopnkkbmaaGreatDoorRows
import GoSem.ClaimSeven
namespace Go.Proofs.YtkjpmkopnkkbmaaGreatDoor
namespace Rows

/-- THE TIED CARD OF 'hollowaylaw9.InnerBegins'. -/
def innerBeginsCard : Claim7 := { stood := { row := innerBeginsRow, standIns := [], harness := (true, "98f351ad8669b2950b60a70fb2aa1ab699a906c2db1e568255fd68454b28576c"), looks := true }, kinds := [], alts := [], laidByText := true, laidKinds := [.handle], laidTests := true, laidLooks := .later }
def InnerBeginsCardSaid : Prop := Claim7.holds Tryz.pinned (.plain (OpenSpec.ofChange innerBeginsSpec)) innerBeginsCard

/-- THE TIED CARD OF 'hollowaylaw9.InnerSteps'. -/
def innerStepsCard : Claim7 := { stood := { row := innerStepsRow, standIns := [], harness := (true, "98f351ad8669b2950b60a70fb2aa1ab699a906c2db1e568255fd68454b28576c"), looks := true }, kinds := [], alts := [], laidByText := true, laidKinds := [.handle], laidTests := true, laidLooks := .later }
def InnerStepsCardSaid : Prop := Claim7.holds Tryz.pinned (.plain (OpenSpec.ofChange innerStepsSpec)) innerStepsCard

/-- THE TIED CARD OF 'hollowaylaw13.RecordStays'. -/
def recordStaysCard : Claim7 := { stood := { row := recordStaysRow, standIns := [], harness := (true, "98f351ad8669b2950b60a70fb2aa1ab699a906c2db1e568255fd68454b28576c"), looks := true }, kinds := [], alts := [], laidByText := true, laidKinds := [.handle], laidTests := true, laidLooks := .later }
def RecordStaysCardSaid : Prop := Claim7.holds Tryz.pinned (.plain (OpenSpec.ofChange recordStaysSpec)) recordStaysCard

/-- THE TIED CARD OF 'hollowaylaw13.RecordCells'. -/
def recordCellsCard : Claim7 := { stood := { row := recordCellsRow, standIns := [], harness := (true, "98f351ad8669b2950b60a70fb2aa1ab699a906c2db1e568255fd68454b28576c"), looks := true }, kinds := [], alts := [], laidByText := true, laidKinds := [.handle], laidTests := true, laidLooks := .later }
def RecordCellsCardSaid : Prop := Claim7.holds Tryz.pinned (.plain (OpenSpec.ofChange recordCellsSpec)) recordCellsCard

/-- THE TIED CARD OF 'hollowaylaw13.RecordTells'. -/
def recordTellsCard : Claim7 := { stood := { row := recordTellsRow, standIns := [], harness := (true, "98f351ad8669b2950b60a70fb2aa1ab699a906c2db1e568255fd68454b28576c"), looks := true }, kinds := [], alts := [], laidByText := true, laidKinds := [.handle], laidTests := true, laidLooks := .later }
def RecordTellsCardSaid : Prop := Claim7.holds Tryz.pinned (.plain (OpenSpec.ofChange recordTellsSpec)) recordTellsCard

/-- THE SECOND FORM's CARD OF 'hollowaylaw9.InnerBegins'. -/
def innerBeginsUptoCard : Claim7 := { stood := { row := innerBeginsUptoRow, standIns := [], harness := (true, "98f351ad8669b2950b60a70fb2aa1ab699a906c2db1e568255fd68454b28576c"), looks := true }, kinds := [], alts := [], laidByText := true, laidKinds := [.handle], laidTests := true, laidLooks := .later }
def InnerBeginsUptoCardSaid : Prop := Claim7.holds Tryz.pinned (.plain (OpenSpec.upto innerBeginsSpec)) innerBeginsUptoCard

/-- THE SECOND FORM's CARD OF 'hollowaylaw9.InnerSteps'. -/
def innerStepsUptoCard : Claim7 := { stood := { row := innerStepsUptoRow, standIns := [], harness := (true, "98f351ad8669b2950b60a70fb2aa1ab699a906c2db1e568255fd68454b28576c"), looks := true }, kinds := [], alts := [], laidByText := true, laidKinds := [.handle], laidTests := true, laidLooks := .later }
def InnerStepsUptoCardSaid : Prop := Claim7.holds Tryz.pinned (.plain (OpenSpec.upto innerStepsSpec)) innerStepsUptoCard

/-- THE SECOND FORM's CARD OF 'hollowaylaw13.RecordStays'. -/
def recordStaysUptoCard : Claim7 := { stood := { row := recordStaysUptoRow, standIns := [], harness := (true, "98f351ad8669b2950b60a70fb2aa1ab699a906c2db1e568255fd68454b28576c"), looks := true }, kinds := [], alts := [], laidByText := true, laidKinds := [.handle], laidTests := true, laidLooks := .later }
def RecordStaysUptoCardSaid : Prop := Claim7.holds Tryz.pinned (.plain (OpenSpec.upto recordStaysSpec)) recordStaysUptoCard

/-- THE SECOND FORM's CARD OF 'hollowaylaw13.RecordCells'. -/
def recordCellsUptoCard : Claim7 := { stood := { row := recordCellsUptoRow, standIns := [], harness := (true, "98f351ad8669b2950b60a70fb2aa1ab699a906c2db1e568255fd68454b28576c"), looks := true }, kinds := [], alts := [], laidByText := true, laidKinds := [.handle], laidTests := true, laidLooks := .later }
def RecordCellsUptoCardSaid : Prop := Claim7.holds Tryz.pinned (.plain (OpenSpec.upto recordCellsSpec)) recordCellsUptoCard

/-- THE SECOND FORM's CARD OF 'hollowaylaw13.RecordTells'. -/
def recordTellsUptoCard : Claim7 := { stood := { row := recordTellsUptoRow, standIns := [], harness := (true, "98f351ad8669b2950b60a70fb2aa1ab699a906c2db1e568255fd68454b28576c"), looks := true }, kinds := [], alts := [], laidByText := true, laidKinds := [.handle], laidTests := true, laidLooks := .later }
def RecordTellsUptoCardSaid : Prop := Claim7.holds Tryz.pinned (.plain (OpenSpec.upto recordTellsSpec)) recordTellsUptoCard
end Rows
end Go.Proofs.YtkjpmkopnkkbmaaGreatDoor
