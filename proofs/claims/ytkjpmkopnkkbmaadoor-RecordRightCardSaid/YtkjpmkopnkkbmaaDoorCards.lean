/-
  DERIVED. GIVEN WITH THE SEED: THE CARDS: each row of YtkjpmkopnkkbmaaDoorRows.lean that lists a variable, with what it lists TIED to the program's text (the seventh form; the later family's looks); each row that meets fmt, with fmt's text TOLD by the authors' own Lean function (tested against real Go, not proved from fmt's source: count such statements apart). THE CARD IS WHAT COUNTS. Prove the row's statement (the work); the ties are given (YtkjpmkopnkkbmaaDoorTie.lean); close each card by the builder's one call (the guide's Derived/Test/ToyasCard.lean, 'card_holds'). Laid BY PROGRAM, IN A SANDBOX (cutbox-door.mjs). By AI agents, Wed Nov 11 2026. No macro, syntax, notation, axiom, sorry.
-/
import Derived.Test.YtkjpmkopnkkbmaaDoorRows
import GoSem.ClaimSeven
namespace Go.Proofs.YtkjpmkopnkkbmaaDoor
namespace Rows

/-- THE TIED CARD OF 'hollowaylaw9.InnerFuel'. -/
def innerFuelCard : Claim7 := { stood := { row := innerFuelRow, standIns := [], harness := (true, "6b9632f0e0ff000d7b0a9cd37219c97abb02a63c63e9ffadbe03307fbdd60eab"), looks := true }, kinds := [], alts := [], laidByText := true, laidKinds := [.handle], laidTests := true, laidLooks := .later }
def InnerFuelCardSaid : Prop := Claim7.holds Tryd.pinned (.plain (OpenSpec.ofChange innerFuelSpec)) innerFuelCard

/-- THE TIED CARD OF 'hollowaylaw9.InnerCalls'. -/
def innerCallsCard : Claim7 := { stood := { row := innerCallsRow, standIns := [], harness := (true, "6b9632f0e0ff000d7b0a9cd37219c97abb02a63c63e9ffadbe03307fbdd60eab"), looks := true }, kinds := [], alts := [], laidByText := true, laidKinds := [.handle], laidTests := true, laidLooks := .later }
def InnerCallsCardSaid : Prop := Claim7.holds Tryd.pinned (.plain (OpenSpec.ofChange innerCallsSpec)) innerCallsCard

/-- THE TIED CARD OF 'hollowaylaw9.InnerStacks'. -/
def innerStacksCard : Claim7 := { stood := { row := innerStacksRow, standIns := [], harness := (true, "6b9632f0e0ff000d7b0a9cd37219c97abb02a63c63e9ffadbe03307fbdd60eab"), looks := true }, kinds := [], alts := [], laidByText := true, laidKinds := [.handle], laidTests := true, laidLooks := .later }
def InnerStacksCardSaid : Prop := Claim7.holds Tryd.pinned (.plain (OpenSpec.ofChange innerStacksSpec)) innerStacksCard

/-- THE TIED CARD OF 'hollowaylaw9.InnerMemory'. -/
def innerMemoryCard : Claim7 := { stood := { row := innerMemoryRow, standIns := [], harness := (true, "6b9632f0e0ff000d7b0a9cd37219c97abb02a63c63e9ffadbe03307fbdd60eab"), looks := true }, kinds := [], alts := [], laidByText := true, laidKinds := [.handle], laidTests := true, laidLooks := .later }
def InnerMemoryCardSaid : Prop := Claim7.holds Tryd.pinned (.plain (OpenSpec.ofChange innerMemorySpec)) innerMemoryCard

/-- THE TIED CARD OF 'hollowaylaw9.InnerCatch'. -/
def innerCatchCard : Claim7 := { stood := { row := innerCatchRow, standIns := [], harness := (true, "6b9632f0e0ff000d7b0a9cd37219c97abb02a63c63e9ffadbe03307fbdd60eab"), looks := true }, kinds := [], alts := [], laidByText := true, laidKinds := [.handle], laidTests := true, laidLooks := .later }
def InnerCatchCardSaid : Prop := Claim7.holds Tryd.pinned (.plain (OpenSpec.ofChange innerCatchSpec)) innerCatchCard

/-- THE TIED CARD OF 'hollowaylaw9.InnerLoops'. -/
def innerLoopsCard : Claim7 := { stood := { row := innerLoopsRow, standIns := [], harness := (true, "6b9632f0e0ff000d7b0a9cd37219c97abb02a63c63e9ffadbe03307fbdd60eab"), looks := true }, kinds := [], alts := [], laidByText := true, laidKinds := [.handle], laidTests := true, laidLooks := .later }
def InnerLoopsCardSaid : Prop := Claim7.holds Tryd.pinned (.plain (OpenSpec.ofChange innerLoopsSpec)) innerLoopsCard

/-- THE TIED CARD OF 'hollowaylaw9.InnerTalks'. -/
def innerTalksCard : Claim7 := { stood := { row := innerTalksRow, standIns := [], harness := (true, "6b9632f0e0ff000d7b0a9cd37219c97abb02a63c63e9ffadbe03307fbdd60eab"), looks := true }, kinds := [], alts := [], laidByText := true, laidKinds := [.handle], laidTests := true, laidLooks := .later }
def InnerTalksCardSaid : Prop := Claim7.holds Tryd.pinned (.plain (OpenSpec.ofChange innerTalksSpec)) innerTalksCard

/-- THE TIED CARD OF 'hollowaylaw9.InnerFaults'. -/
def innerFaultsCard : Claim7 := { stood := { row := innerFaultsRow, standIns := [], harness := (true, "6b9632f0e0ff000d7b0a9cd37219c97abb02a63c63e9ffadbe03307fbdd60eab"), looks := true }, kinds := [], alts := [], laidByText := true, laidKinds := [.handle], laidTests := true, laidLooks := .later }
def InnerFaultsCardSaid : Prop := Claim7.holds Tryd.pinned (.plain (OpenSpec.ofChange innerFaultsSpec)) innerFaultsCard

/-- THE TIED CARD OF 'hollowaylaw13.RecordRight'. -/
def recordRightCard : Claim7 := { stood := { row := recordRightRow, standIns := [], harness := (true, "6b9632f0e0ff000d7b0a9cd37219c97abb02a63c63e9ffadbe03307fbdd60eab"), looks := true }, kinds := [], alts := [], laidByText := true, laidKinds := [.handle], laidTests := true, laidLooks := .later }
def RecordRightCardSaid : Prop := Claim7.holds Tryd.pinned (.plain (OpenSpec.ofChange recordRightSpec)) recordRightCard

/-- THE TIED CARD OF 'hollowaylaw13.RecordMost'. -/
def recordMostCard : Claim7 := { stood := { row := recordMostRow, standIns := [], harness := (true, "6b9632f0e0ff000d7b0a9cd37219c97abb02a63c63e9ffadbe03307fbdd60eab"), looks := true }, kinds := [], alts := [], laidByText := true, laidKinds := [.handle], laidTests := true, laidLooks := .later }
def RecordMostCardSaid : Prop := Claim7.holds Tryd.pinned (.plain (OpenSpec.ofChange recordMostSpec)) recordMostCard

/-- THE SECOND FORM's CARD OF 'hollowaylaw9.InnerFuel'. -/
def innerFuelUptoCard : Claim7 := { stood := { row := innerFuelUptoRow, standIns := [], harness := (true, "6b9632f0e0ff000d7b0a9cd37219c97abb02a63c63e9ffadbe03307fbdd60eab"), looks := true }, kinds := [], alts := [], laidByText := true, laidKinds := [.handle], laidTests := true, laidLooks := .later }
def InnerFuelUptoCardSaid : Prop := Claim7.holds Tryd.pinned (.plain (OpenSpec.upto innerFuelSpec)) innerFuelUptoCard

/-- THE SECOND FORM's CARD OF 'hollowaylaw9.InnerCalls'. -/
def innerCallsUptoCard : Claim7 := { stood := { row := innerCallsUptoRow, standIns := [], harness := (true, "6b9632f0e0ff000d7b0a9cd37219c97abb02a63c63e9ffadbe03307fbdd60eab"), looks := true }, kinds := [], alts := [], laidByText := true, laidKinds := [.handle], laidTests := true, laidLooks := .later }
def InnerCallsUptoCardSaid : Prop := Claim7.holds Tryd.pinned (.plain (OpenSpec.upto innerCallsSpec)) innerCallsUptoCard

/-- THE SECOND FORM's CARD OF 'hollowaylaw9.InnerStacks'. -/
def innerStacksUptoCard : Claim7 := { stood := { row := innerStacksUptoRow, standIns := [], harness := (true, "6b9632f0e0ff000d7b0a9cd37219c97abb02a63c63e9ffadbe03307fbdd60eab"), looks := true }, kinds := [], alts := [], laidByText := true, laidKinds := [.handle], laidTests := true, laidLooks := .later }
def InnerStacksUptoCardSaid : Prop := Claim7.holds Tryd.pinned (.plain (OpenSpec.upto innerStacksSpec)) innerStacksUptoCard

/-- THE SECOND FORM's CARD OF 'hollowaylaw9.InnerMemory'. -/
def innerMemoryUptoCard : Claim7 := { stood := { row := innerMemoryUptoRow, standIns := [], harness := (true, "6b9632f0e0ff000d7b0a9cd37219c97abb02a63c63e9ffadbe03307fbdd60eab"), looks := true }, kinds := [], alts := [], laidByText := true, laidKinds := [.handle], laidTests := true, laidLooks := .later }
def InnerMemoryUptoCardSaid : Prop := Claim7.holds Tryd.pinned (.plain (OpenSpec.upto innerMemorySpec)) innerMemoryUptoCard

/-- THE SECOND FORM's CARD OF 'hollowaylaw9.InnerCatch'. -/
def innerCatchUptoCard : Claim7 := { stood := { row := innerCatchUptoRow, standIns := [], harness := (true, "6b9632f0e0ff000d7b0a9cd37219c97abb02a63c63e9ffadbe03307fbdd60eab"), looks := true }, kinds := [], alts := [], laidByText := true, laidKinds := [.handle], laidTests := true, laidLooks := .later }
def InnerCatchUptoCardSaid : Prop := Claim7.holds Tryd.pinned (.plain (OpenSpec.upto innerCatchSpec)) innerCatchUptoCard

/-- THE SECOND FORM's CARD OF 'hollowaylaw9.InnerLoops'. -/
def innerLoopsUptoCard : Claim7 := { stood := { row := innerLoopsUptoRow, standIns := [], harness := (true, "6b9632f0e0ff000d7b0a9cd37219c97abb02a63c63e9ffadbe03307fbdd60eab"), looks := true }, kinds := [], alts := [], laidByText := true, laidKinds := [.handle], laidTests := true, laidLooks := .later }
def InnerLoopsUptoCardSaid : Prop := Claim7.holds Tryd.pinned (.plain (OpenSpec.upto innerLoopsSpec)) innerLoopsUptoCard

/-- THE SECOND FORM's CARD OF 'hollowaylaw9.InnerTalks'. -/
def innerTalksUptoCard : Claim7 := { stood := { row := innerTalksUptoRow, standIns := [], harness := (true, "6b9632f0e0ff000d7b0a9cd37219c97abb02a63c63e9ffadbe03307fbdd60eab"), looks := true }, kinds := [], alts := [], laidByText := true, laidKinds := [.handle], laidTests := true, laidLooks := .later }
def InnerTalksUptoCardSaid : Prop := Claim7.holds Tryd.pinned (.plain (OpenSpec.upto innerTalksSpec)) innerTalksUptoCard

/-- THE SECOND FORM's CARD OF 'hollowaylaw9.InnerFaults'. -/
def innerFaultsUptoCard : Claim7 := { stood := { row := innerFaultsUptoRow, standIns := [], harness := (true, "6b9632f0e0ff000d7b0a9cd37219c97abb02a63c63e9ffadbe03307fbdd60eab"), looks := true }, kinds := [], alts := [], laidByText := true, laidKinds := [.handle], laidTests := true, laidLooks := .later }
def InnerFaultsUptoCardSaid : Prop := Claim7.holds Tryd.pinned (.plain (OpenSpec.upto innerFaultsSpec)) innerFaultsUptoCard

/-- THE SECOND FORM's CARD OF 'hollowaylaw13.RecordRight'. -/
def recordRightUptoCard : Claim7 := { stood := { row := recordRightUptoRow, standIns := [], harness := (true, "6b9632f0e0ff000d7b0a9cd37219c97abb02a63c63e9ffadbe03307fbdd60eab"), looks := true }, kinds := [], alts := [], laidByText := true, laidKinds := [.handle], laidTests := true, laidLooks := .later }
def RecordRightUptoCardSaid : Prop := Claim7.holds Tryd.pinned (.plain (OpenSpec.upto recordRightSpec)) recordRightUptoCard

/-- THE SECOND FORM's CARD OF 'hollowaylaw13.RecordMost'. -/
def recordMostUptoCard : Claim7 := { stood := { row := recordMostUptoRow, standIns := [], harness := (true, "6b9632f0e0ff000d7b0a9cd37219c97abb02a63c63e9ffadbe03307fbdd60eab"), looks := true }, kinds := [], alts := [], laidByText := true, laidKinds := [.handle], laidTests := true, laidLooks := .later }
def RecordMostUptoCardSaid : Prop := Claim7.holds Tryd.pinned (.plain (OpenSpec.upto recordMostSpec)) recordMostUptoCard
end Rows
end Go.Proofs.YtkjpmkopnkkbmaaDoor
