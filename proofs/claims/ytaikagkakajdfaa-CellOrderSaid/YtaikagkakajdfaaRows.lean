/-
  No cell of these rows narrows 'for every input' (looked for: loops, veiled, ifaces, maps, wideKeys, modest, calm, conditions, laid).
  DERIVED. THE GIVEN ROWS OF THIS SEAT. 10 by the template 'for every input the law returns true; each argument reads behind the call as it read before'; 0 by the template 'total and deterministic' (their statements: YtaikagkakajdfaaTotals.lean).
  GIVEN WITH THE SEED: the statements are not yours to turn. If you find one false, say at which input.
  Laid BY PROGRAM, IN A SANDBOX (cutbox-rows.mjs): the forced cells as the released guide's own fill.sh prints them over the translation ab9b454cf0b5b2e5… (all of the seat's roots in one cut). By AI agents, Wed Nov 11 2026. No macro, syntax, notation, axiom, sorry.
-/
import Derived.Test.YtaikagkakajdfaaChecked
import GoSem.Claim
import GoSem.ClaimJoined
import GoSem.ClaimMapViews
import Derived.JoinedTies
import Derived.KernelRfl
namespace Go.Proofs.Ytaikagkakajdfaa
/- THE CELL 'sum', in the pinned program and in every row, IS THE sha256 OF THE DUMP (.gsa) THAT YtaikagkakajdfaaProg.lean LOADS. Nothing in Lean hashes anything: it is a label: what it is worth is what the hold of that sum in a sandbox is worth. -/
noncomputable def Try.pinned : Pinned := { name := "ytaikagkakajdfaa", sum := "ab9b454cf0b5b2e5ad1f202db55490fc5d93997fe13522f1f78a848f233c5386", checked := Try.checked }
namespace Rows
def none {H : Type} : Left H := { results := [], args := [] }

/-- 'hollowaylaw5.PileBack': WHATEVER THE INPUT: true; the input reads as it did. -/
def pileBackSpec : ChangeSpec := { name := "pileBack", fn := fun _ => fun
  | [d1, d2, d3] => { results := [.lit (.bool true)], args := [d1, d2, d3] }
  | _ => none }
def pileBackRow : OpenClaim := { program := "ytaikagkakajdfaa", sum := "ab9b454cf0b5b2e5ad1f202db55490fc5d93997fe13522f1f78a848f233c5386", func := "holloway/hollowaylaw5.PileBack", spec := "pileBack", apart := false }
def PileBackSaid : Prop := pileBackRow.holds Try.pinned (OpenSpec.ofChange pileBackSpec)

/-- ITS FALSE NEIGHBOUR: 'it returns false'. Refute it at one input. -/
def pileBackWrong : ChangeSpec := { name := "pileBack", fn := fun _ => fun
  | [d1, d2, d3] => { results := [.lit (.bool false)], args := [d1, d2, d3] }
  | _ => none }
def PileBackWrongFalsely : Prop := pileBackRow.holds Try.pinned (OpenSpec.ofChange pileBackWrong)

/-- 'hollowaylaw5.PileParts': WHATEVER THE INPUT: true; the input reads as it did. -/
def pilePartsSpec : ChangeSpec := { name := "pileParts", fn := fun _ => fun
  | [d1, d2, d3] => { results := [.lit (.bool true)], args := [d1, d2, d3] }
  | _ => none }
def pilePartsRow : OpenClaim := { program := "ytaikagkakajdfaa", sum := "ab9b454cf0b5b2e5ad1f202db55490fc5d93997fe13522f1f78a848f233c5386", func := "holloway/hollowaylaw5.PileParts", spec := "pileParts", apart := false }
def PilePartsSaid : Prop := pilePartsRow.holds Try.pinned (OpenSpec.ofChange pilePartsSpec)

/-- ITS FALSE NEIGHBOUR: 'it returns false'. Refute it at one input. -/
def pilePartsWrong : ChangeSpec := { name := "pileParts", fn := fun _ => fun
  | [d1, d2, d3] => { results := [.lit (.bool false)], args := [d1, d2, d3] }
  | _ => none }
def PilePartsWrongFalsely : Prop := pilePartsRow.holds Try.pinned (OpenSpec.ofChange pilePartsWrong)

/-- 'hollowaylaw5.PileCuts': WHATEVER THE INPUT: true; the input reads as it did. -/
def pileCutsSpec : ChangeSpec := { name := "pileCuts", fn := fun _ => fun
  | [d1, d2] => { results := [.lit (.bool true)], args := [d1, d2] }
  | _ => none }
def pileCutsRow : OpenClaim := { program := "ytaikagkakajdfaa", sum := "ab9b454cf0b5b2e5ad1f202db55490fc5d93997fe13522f1f78a848f233c5386", func := "holloway/hollowaylaw5.PileCuts", spec := "pileCuts", apart := false }
def PileCutsSaid : Prop := pileCutsRow.holds Try.pinned (OpenSpec.ofChange pileCutsSpec)

/-- ITS FALSE NEIGHBOUR: 'it returns false'. Refute it at one input. -/
def pileCutsWrong : ChangeSpec := { name := "pileCuts", fn := fun _ => fun
  | [d1, d2] => { results := [.lit (.bool false)], args := [d1, d2] }
  | _ => none }
def PileCutsWrongFalsely : Prop := pileCutsRow.holds Try.pinned (OpenSpec.ofChange pileCutsWrong)

/-- 'hollowaylaw1.CellFloors': WHATEVER THE INPUT: true; the input reads as it did. -/
def cellFloorsSpec : ChangeSpec := { name := "cellFloors", fn := fun _ => fun
  | [d1, d2] => { results := [.lit (.bool true)], args := [d1, d2] }
  | _ => none }
def cellFloorsRow : OpenClaim := { program := "ytaikagkakajdfaa", sum := "ab9b454cf0b5b2e5ad1f202db55490fc5d93997fe13522f1f78a848f233c5386", func := "holloway/hollowaylaw1.CellFloors", spec := "cellFloors", apart := false }
def CellFloorsSaid : Prop := cellFloorsRow.holds Try.pinned (OpenSpec.ofChange cellFloorsSpec)

/-- ITS FALSE NEIGHBOUR: 'it returns false'. Refute it at one input. -/
def cellFloorsWrong : ChangeSpec := { name := "cellFloors", fn := fun _ => fun
  | [d1, d2] => { results := [.lit (.bool false)], args := [d1, d2] }
  | _ => none }
def CellFloorsWrongFalsely : Prop := cellFloorsRow.holds Try.pinned (OpenSpec.ofChange cellFloorsWrong)

/-- 'hollowaylaw1.CellShifts': WHATEVER THE INPUT: true; the input reads as it did. -/
def cellShiftsSpec : ChangeSpec := { name := "cellShifts", fn := fun _ => fun
  | [d1, d2, d3] => { results := [.lit (.bool true)], args := [d1, d2, d3] }
  | _ => none }
def cellShiftsRow : OpenClaim := { program := "ytaikagkakajdfaa", sum := "ab9b454cf0b5b2e5ad1f202db55490fc5d93997fe13522f1f78a848f233c5386", func := "holloway/hollowaylaw1.CellShifts", spec := "cellShifts", apart := false }
def CellShiftsSaid : Prop := cellShiftsRow.holds Try.pinned (OpenSpec.ofChange cellShiftsSpec)

/-- ITS FALSE NEIGHBOUR: 'it returns false'. Refute it at one input. -/
def cellShiftsWrong : ChangeSpec := { name := "cellShifts", fn := fun _ => fun
  | [d1, d2, d3] => { results := [.lit (.bool false)], args := [d1, d2, d3] }
  | _ => none }
def CellShiftsWrongFalsely : Prop := cellShiftsRow.holds Try.pinned (OpenSpec.ofChange cellShiftsWrong)

/-- 'hollowaylaw1.CellLoops': WHATEVER THE INPUT: true; the input reads as it did. -/
def cellLoopsSpec : ChangeSpec := { name := "cellLoops", fn := fun _ => fun
  | [d1, d2] => { results := [.lit (.bool true)], args := [d1, d2] }
  | _ => none }
def cellLoopsRow : OpenClaim := { program := "ytaikagkakajdfaa", sum := "ab9b454cf0b5b2e5ad1f202db55490fc5d93997fe13522f1f78a848f233c5386", func := "holloway/hollowaylaw1.CellLoops", spec := "cellLoops", apart := false }
def CellLoopsSaid : Prop := cellLoopsRow.holds Try.pinned (OpenSpec.ofChange cellLoopsSpec)

/-- ITS FALSE NEIGHBOUR: 'it returns false'. Refute it at one input. -/
def cellLoopsWrong : ChangeSpec := { name := "cellLoops", fn := fun _ => fun
  | [d1, d2] => { results := [.lit (.bool false)], args := [d1, d2] }
  | _ => none }
def CellLoopsWrongFalsely : Prop := cellLoopsRow.holds Try.pinned (OpenSpec.ofChange cellLoopsWrong)

/-- 'hollowaylaw5.PilePlays': WHATEVER THE INPUT: true; the input reads as it did. -/
def pilePlaysSpec : ChangeSpec := { name := "pilePlays", fn := fun _ => fun
  | [d1, d2, d3, d4] => { results := [.lit (.bool true)], args := [d1, d2, d3, d4] }
  | _ => none }
def pilePlaysRow : OpenClaim := { program := "ytaikagkakajdfaa", sum := "ab9b454cf0b5b2e5ad1f202db55490fc5d93997fe13522f1f78a848f233c5386", func := "holloway/hollowaylaw5.PilePlays", spec := "pilePlays", apart := false }
def PilePlaysSaid : Prop := pilePlaysRow.holds Try.pinned (OpenSpec.ofChange pilePlaysSpec)

/-- ITS FALSE NEIGHBOUR: 'it returns false'. Refute it at one input. -/
def pilePlaysWrong : ChangeSpec := { name := "pilePlays", fn := fun _ => fun
  | [d1, d2, d3, d4] => { results := [.lit (.bool false)], args := [d1, d2, d3, d4] }
  | _ => none }
def PilePlaysWrongFalsely : Prop := pilePlaysRow.holds Try.pinned (OpenSpec.ofChange pilePlaysWrong)

/-- 'hollowaylaw1.CellLaws': WHATEVER THE INPUT: true; the input reads as it did. -/
def cellLawsSpec : ChangeSpec := { name := "cellLaws", fn := fun _ => fun
  | [d1, d2, d3] => { results := [.lit (.bool true)], args := [d1, d2, d3] }
  | _ => none }
def cellLawsRow : OpenClaim := { program := "ytaikagkakajdfaa", sum := "ab9b454cf0b5b2e5ad1f202db55490fc5d93997fe13522f1f78a848f233c5386", func := "holloway/hollowaylaw1.CellLaws", spec := "cellLaws", apart := false }
def CellLawsSaid : Prop := cellLawsRow.holds Try.pinned (OpenSpec.ofChange cellLawsSpec)

/-- ITS FALSE NEIGHBOUR: 'it returns false'. Refute it at one input. -/
def cellLawsWrong : ChangeSpec := { name := "cellLaws", fn := fun _ => fun
  | [d1, d2, d3] => { results := [.lit (.bool false)], args := [d1, d2, d3] }
  | _ => none }
def CellLawsWrongFalsely : Prop := cellLawsRow.holds Try.pinned (OpenSpec.ofChange cellLawsWrong)

/-- 'hollowaylaw1.CellOrder': WHATEVER THE INPUT: true; the input reads as it did. -/
def cellOrderSpec : ChangeSpec := { name := "cellOrder", fn := fun _ => fun
  | [d1, d2] => { results := [.lit (.bool true)], args := [d1, d2] }
  | _ => none }
def cellOrderRow : OpenClaim := { program := "ytaikagkakajdfaa", sum := "ab9b454cf0b5b2e5ad1f202db55490fc5d93997fe13522f1f78a848f233c5386", func := "holloway/hollowaylaw1.CellOrder", spec := "cellOrder", apart := false }
def CellOrderSaid : Prop := cellOrderRow.holds Try.pinned (OpenSpec.ofChange cellOrderSpec)

/-- ITS FALSE NEIGHBOUR: 'it returns false'. Refute it at one input. -/
def cellOrderWrong : ChangeSpec := { name := "cellOrder", fn := fun _ => fun
  | [d1, d2] => { results := [.lit (.bool false)], args := [d1, d2] }
  | _ => none }
def CellOrderWrongFalsely : Prop := cellOrderRow.holds Try.pinned (OpenSpec.ofChange cellOrderWrong)

/-- 'hollowaylaw1.CellTells': WHATEVER THE INPUT: true; the input reads as it did. -/
def cellTellsSpec : ChangeSpec := { name := "cellTells", fn := fun _ => fun
  | [d1, d2, d3] => { results := [.lit (.bool true)], args := [d1, d2, d3] }
  | _ => none }
def cellTellsRow : OpenClaim := { program := "ytaikagkakajdfaa", sum := "ab9b454cf0b5b2e5ad1f202db55490fc5d93997fe13522f1f78a848f233c5386", func := "holloway/hollowaylaw1.CellTells", spec := "cellTells", apart := false }
def CellTellsSaid : Prop := cellTellsRow.holds Try.pinned (OpenSpec.ofChange cellTellsSpec)

/-- ITS FALSE NEIGHBOUR: 'it returns false'. Refute it at one input. -/
def cellTellsWrong : ChangeSpec := { name := "cellTells", fn := fun _ => fun
  | [d1, d2, d3] => { results := [.lit (.bool false)], args := [d1, d2, d3] }
  | _ => none }
def CellTellsWrongFalsely : Prop := cellTellsRow.holds Try.pinned (OpenSpec.ofChange cellTellsWrong)

/- THE SECOND FORM. 'bulk': how many values and letters a reading holds, each counted each time it is reached (what is shared counts as often as it is met; a slice's spare places count too). A statement '..UptoSaid' is the law's where the arguments, and the package variables that the reading takes, are together of bulk at most 1048576: NARROWER than '..Said'. Prove '..Said' where nothing that the law and all that it calls make is longer than what came in: it says more and counts as full. Else prove '..UptoSaid'. A law counts once. -/
mutual
def uptoBulk {H : Type} : DataW H → Nat
  | .lit (.string bytes) => bytes.length + 1
  | .lit _ => 1
  | .nil => 1
  | .ptr d => uptoBulk d + 1
  | .slice elems spare => uptoBulkAll elems + uptoBulkAll spare + 1
  | .agg parts => uptoBulkAll parts + 1
  | .iface _ d => uptoBulk d + 1
  | .map entries => uptoBulkEntries entries + 1
  | .held _ => 1
def uptoBulkAll {H : Type} : List (DataW H) → Nat
  | [] => 0
  | d :: r => uptoBulk d + uptoBulkAll r
def uptoBulkEntries {H : Type} : List (Lit × DataW H) → Nat
  | [] => 0
  | x :: r => uptoBulkEntry x + uptoBulkEntries r
def uptoBulkEntry {H : Type} : Lit × DataW H → Nat
  | (.string bytes, d) => bytes.length + uptoBulk d + 1
  | (_, d) => uptoBulk d + 1
 end
def uptoSmall : (H : Type) → List (DataW H) → Bool := fun _ ds => decide (uptoBulkAll ds ≤ 1048576)
def OpenSpec.upto (s : _root_.Go.ChangeSpec) : _root_.Go.OpenSpec := { _root_.Go.OpenSpec.ofChange s with cond := some uptoSmall }

/-- 'hollowaylaw5.PileBack', WHERE WHAT IT READS IS OF BULK AT MOST 1048576: true; the input reads as it did. -/
def pileBackUptoRow : OpenClaim := { program := "ytaikagkakajdfaa", sum := "ab9b454cf0b5b2e5ad1f202db55490fc5d93997fe13522f1f78a848f233c5386", func := "holloway/hollowaylaw5.PileBack", spec := "pileBack", apart := false, narrowed := true }
def PileBackUptoSaid : Prop := pileBackUptoRow.holds Try.pinned (OpenSpec.upto pileBackSpec)

/-- 'hollowaylaw5.PileParts', WHERE WHAT IT READS IS OF BULK AT MOST 1048576: true; the input reads as it did. -/
def pilePartsUptoRow : OpenClaim := { program := "ytaikagkakajdfaa", sum := "ab9b454cf0b5b2e5ad1f202db55490fc5d93997fe13522f1f78a848f233c5386", func := "holloway/hollowaylaw5.PileParts", spec := "pileParts", apart := false, narrowed := true }
def PilePartsUptoSaid : Prop := pilePartsUptoRow.holds Try.pinned (OpenSpec.upto pilePartsSpec)

/-- 'hollowaylaw5.PileCuts', WHERE WHAT IT READS IS OF BULK AT MOST 1048576: true; the input reads as it did. -/
def pileCutsUptoRow : OpenClaim := { program := "ytaikagkakajdfaa", sum := "ab9b454cf0b5b2e5ad1f202db55490fc5d93997fe13522f1f78a848f233c5386", func := "holloway/hollowaylaw5.PileCuts", spec := "pileCuts", apart := false, narrowed := true }
def PileCutsUptoSaid : Prop := pileCutsUptoRow.holds Try.pinned (OpenSpec.upto pileCutsSpec)

/-- 'hollowaylaw1.CellFloors', WHERE WHAT IT READS IS OF BULK AT MOST 1048576: true; the input reads as it did. -/
def cellFloorsUptoRow : OpenClaim := { program := "ytaikagkakajdfaa", sum := "ab9b454cf0b5b2e5ad1f202db55490fc5d93997fe13522f1f78a848f233c5386", func := "holloway/hollowaylaw1.CellFloors", spec := "cellFloors", apart := false, narrowed := true }
def CellFloorsUptoSaid : Prop := cellFloorsUptoRow.holds Try.pinned (OpenSpec.upto cellFloorsSpec)

/-- 'hollowaylaw1.CellShifts', WHERE WHAT IT READS IS OF BULK AT MOST 1048576: true; the input reads as it did. -/
def cellShiftsUptoRow : OpenClaim := { program := "ytaikagkakajdfaa", sum := "ab9b454cf0b5b2e5ad1f202db55490fc5d93997fe13522f1f78a848f233c5386", func := "holloway/hollowaylaw1.CellShifts", spec := "cellShifts", apart := false, narrowed := true }
def CellShiftsUptoSaid : Prop := cellShiftsUptoRow.holds Try.pinned (OpenSpec.upto cellShiftsSpec)

/-- 'hollowaylaw1.CellLoops', WHERE WHAT IT READS IS OF BULK AT MOST 1048576: true; the input reads as it did. -/
def cellLoopsUptoRow : OpenClaim := { program := "ytaikagkakajdfaa", sum := "ab9b454cf0b5b2e5ad1f202db55490fc5d93997fe13522f1f78a848f233c5386", func := "holloway/hollowaylaw1.CellLoops", spec := "cellLoops", apart := false, narrowed := true }
def CellLoopsUptoSaid : Prop := cellLoopsUptoRow.holds Try.pinned (OpenSpec.upto cellLoopsSpec)

/-- 'hollowaylaw5.PilePlays', WHERE WHAT IT READS IS OF BULK AT MOST 1048576: true; the input reads as it did. -/
def pilePlaysUptoRow : OpenClaim := { program := "ytaikagkakajdfaa", sum := "ab9b454cf0b5b2e5ad1f202db55490fc5d93997fe13522f1f78a848f233c5386", func := "holloway/hollowaylaw5.PilePlays", spec := "pilePlays", apart := false, narrowed := true }
def PilePlaysUptoSaid : Prop := pilePlaysUptoRow.holds Try.pinned (OpenSpec.upto pilePlaysSpec)

/-- 'hollowaylaw1.CellLaws', WHERE WHAT IT READS IS OF BULK AT MOST 1048576: true; the input reads as it did. -/
def cellLawsUptoRow : OpenClaim := { program := "ytaikagkakajdfaa", sum := "ab9b454cf0b5b2e5ad1f202db55490fc5d93997fe13522f1f78a848f233c5386", func := "holloway/hollowaylaw1.CellLaws", spec := "cellLaws", apart := false, narrowed := true }
def CellLawsUptoSaid : Prop := cellLawsUptoRow.holds Try.pinned (OpenSpec.upto cellLawsSpec)

/-- 'hollowaylaw1.CellOrder', WHERE WHAT IT READS IS OF BULK AT MOST 1048576: true; the input reads as it did. -/
def cellOrderUptoRow : OpenClaim := { program := "ytaikagkakajdfaa", sum := "ab9b454cf0b5b2e5ad1f202db55490fc5d93997fe13522f1f78a848f233c5386", func := "holloway/hollowaylaw1.CellOrder", spec := "cellOrder", apart := false, narrowed := true }
def CellOrderUptoSaid : Prop := cellOrderUptoRow.holds Try.pinned (OpenSpec.upto cellOrderSpec)

/-- 'hollowaylaw1.CellTells', WHERE WHAT IT READS IS OF BULK AT MOST 1048576: true; the input reads as it did. -/
def cellTellsUptoRow : OpenClaim := { program := "ytaikagkakajdfaa", sum := "ab9b454cf0b5b2e5ad1f202db55490fc5d93997fe13522f1f78a848f233c5386", func := "holloway/hollowaylaw1.CellTells", spec := "cellTells", apart := false, narrowed := true }
def CellTellsUptoSaid : Prop := cellTellsUptoRow.holds Try.pinned (OpenSpec.upto cellTellsSpec)

end Rows
end Go.Proofs.Ytaikagkakajdfaa
