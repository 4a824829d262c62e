/-
  NARROWER THAN 'FOR EVERY INPUT', by the rows' own cells (each row's printed sentence says how): InnerBegins: laid · InnerSteps: laid · RecordStays: laid · RecordCells: laid · RecordTells: laid.
  DERIVED. THE GIVEN ROWS OF THIS SEAT. 5 by the template 'for every input the law returns true; each argument reads behind the call as it read before'; 0 by the template 'total and deterministic' (their statements: YtkjpmkopnkkbmaaGreatDoorTotals.lean).
  GIVEN WITH THE SEED: the statements are not yours to turn. If you find one false, say at which input.
  Laid BY PROGRAM, IN A SANDBOX (cutbox-rows.mjs): the forced cells as the released guide's own fill.sh prints them over the translation c07a1a1d66b8c583… (all of the seat's roots in one cut). By AI agents, Wed Nov 11 2026. No macro, syntax, notation, axiom, sorry.
-/
import Derived.Test.YtkjpmkopnkkbmaaGreatDoorChecked
import GoSem.Claim
import GoSem.ClaimJoined
import GoSem.ClaimMapViews
import Derived.JoinedTies
import Derived.KernelRfl
namespace Go.Proofs.YtkjpmkopnkkbmaaGreatDoor
/- THE CELL 'sum', in the pinned program and in every row, IS THE sha256 OF THE DUMP (.gsa) THAT YtkjpmkopnkkbmaaGreatDoorProg.lean LOADS. Nothing in Lean hashes anything: it is a label: what it is worth is what the hold of that sum in a sandbox is worth. -/
noncomputable def Tryz.pinned : Pinned := { name := "ytkjpmkopnkkbmaagreatdoor", sum := "c07a1a1d66b8c583e5b386644d48898437ce3687411198b9097aaf6000eac9b2", checked := Tryz.checked }
namespace Rows
def none {H : Type} : Left H := { results := [], args := [] }

/- WHAT THE LISTED PACKAGE-LEVEL VARIABLES READ AS WHEN THE CALL BEGINS. Each datum BY PROGRAM (the guide's laid-datum.mjs) off the statement by which the dump's own 'gosem.cut.vars' lays the variable. In a bare row this is a premise. The card (YtkjpmkopnkkbmaaGreatDoorCards.lean) ties it to the program's text. -/
def laid_errors_errorType {H : Type} : DataW H := .iface "internal/reflectlite.rtype" (.agg [.ptr (.lit (.string [101, 114, 114, 111, 114]))])

/-- 'hollowaylaw9.InnerBegins': WHATEVER THE INPUT: true; the input reads as it did. -/
def innerBeginsSpec : ChangeSpec := { name := "innerBegins", fn := fun _ => fun
  | [d1, d2, d3, d4, d5] => { results := [.lit (.bool true)], args := [d1, d2, d3, d4, d5] }
  | _ => none }
def innerBeginsRow : OpenClaim := { program := "ytkjpmkopnkkbmaagreatdoor", sum := "c07a1a1d66b8c583e5b386644d48898437ce3687411198b9097aaf6000eac9b2", func := "holloway/hollowaylaw9.InnerBegins", spec := "innerBegins", inPlace := ["internal/reflectlite.ValueOf", "(internal/reflectlite.Value).Type", "(internal/reflectlite.Value).IsNil", "internal/reflectlite.TypeOf", "(internal/reflectlite.Value).Elem", "(internal/reflectlite.Value).Set"], unfollowed := true, recurses := true, named := ["errors.errorType"], apart := false, laid := [("errors.errorType", laid_errors_errorType)] }
def InnerBeginsSaid : Prop := innerBeginsRow.holds Tryz.pinned (OpenSpec.ofChange innerBeginsSpec)

/-- ITS FALSE NEIGHBOUR: 'it returns false'. Refute it at one input. -/
def innerBeginsWrong : ChangeSpec := { name := "innerBegins", fn := fun _ => fun
  | [d1, d2, d3, d4, d5] => { results := [.lit (.bool false)], args := [d1, d2, d3, d4, d5] }
  | _ => none }
def InnerBeginsWrongFalsely : Prop := innerBeginsRow.holds Tryz.pinned (OpenSpec.ofChange innerBeginsWrong)

/-- 'hollowaylaw9.InnerSteps': WHATEVER THE INPUT: true; the input reads as it did. -/
def innerStepsSpec : ChangeSpec := { name := "innerSteps", fn := fun _ => fun
  | [d1, d2, d3] => { results := [.lit (.bool true)], args := [d1, d2, d3] }
  | _ => none }
def innerStepsRow : OpenClaim := { program := "ytkjpmkopnkkbmaagreatdoor", sum := "c07a1a1d66b8c583e5b386644d48898437ce3687411198b9097aaf6000eac9b2", func := "holloway/hollowaylaw9.InnerSteps", spec := "innerSteps", inPlace := ["internal/reflectlite.ValueOf", "(internal/reflectlite.Value).Type", "(internal/reflectlite.Value).IsNil", "internal/reflectlite.TypeOf", "(internal/reflectlite.Value).Elem", "(internal/reflectlite.Value).Set"], unfollowed := true, recurses := true, named := ["errors.errorType"], apart := false, laid := [("errors.errorType", laid_errors_errorType)] }
def InnerStepsSaid : Prop := innerStepsRow.holds Tryz.pinned (OpenSpec.ofChange innerStepsSpec)

/-- ITS FALSE NEIGHBOUR: 'it returns false'. Refute it at one input. -/
def innerStepsWrong : ChangeSpec := { name := "innerSteps", fn := fun _ => fun
  | [d1, d2, d3] => { results := [.lit (.bool false)], args := [d1, d2, d3] }
  | _ => none }
def InnerStepsWrongFalsely : Prop := innerStepsRow.holds Tryz.pinned (OpenSpec.ofChange innerStepsWrong)

/-- 'hollowaylaw13.RecordStays': WHATEVER THE INPUT: true; the input reads as it did. -/
def recordStaysSpec : ChangeSpec := { name := "recordStays", fn := fun _ => fun
  | [d1, d2] => { results := [.lit (.bool true)], args := [d1, d2] }
  | _ => none }
def recordStaysRow : OpenClaim := { program := "ytkjpmkopnkkbmaagreatdoor", sum := "c07a1a1d66b8c583e5b386644d48898437ce3687411198b9097aaf6000eac9b2", func := "holloway/hollowaylaw13.RecordStays", spec := "recordStays", inPlace := ["internal/reflectlite.ValueOf", "(internal/reflectlite.Value).Type", "(internal/reflectlite.Value).IsNil", "internal/reflectlite.TypeOf", "(internal/reflectlite.Value).Elem", "(internal/reflectlite.Value).Set"], unfollowed := true, recurses := true, named := ["errors.errorType"], apart := false, laid := [("errors.errorType", laid_errors_errorType)] }
def RecordStaysSaid : Prop := recordStaysRow.holds Tryz.pinned (OpenSpec.ofChange recordStaysSpec)

/-- ITS FALSE NEIGHBOUR: 'it returns false'. Refute it at one input. -/
def recordStaysWrong : ChangeSpec := { name := "recordStays", fn := fun _ => fun
  | [d1, d2] => { results := [.lit (.bool false)], args := [d1, d2] }
  | _ => none }
def RecordStaysWrongFalsely : Prop := recordStaysRow.holds Tryz.pinned (OpenSpec.ofChange recordStaysWrong)

/-- 'hollowaylaw13.RecordCells': WHATEVER THE INPUT: true; the input reads as it did. -/
def recordCellsSpec : ChangeSpec := { name := "recordCells", fn := fun _ => fun
  | [d1, d2, d3, d4] => { results := [.lit (.bool true)], args := [d1, d2, d3, d4] }
  | _ => none }
def recordCellsRow : OpenClaim := { program := "ytkjpmkopnkkbmaagreatdoor", sum := "c07a1a1d66b8c583e5b386644d48898437ce3687411198b9097aaf6000eac9b2", func := "holloway/hollowaylaw13.RecordCells", spec := "recordCells", inPlace := ["internal/reflectlite.ValueOf", "(internal/reflectlite.Value).Type", "(internal/reflectlite.Value).IsNil", "internal/reflectlite.TypeOf", "(internal/reflectlite.Value).Elem", "(internal/reflectlite.Value).Set"], unfollowed := true, recurses := true, named := ["errors.errorType"], apart := false, laid := [("errors.errorType", laid_errors_errorType)] }
def RecordCellsSaid : Prop := recordCellsRow.holds Tryz.pinned (OpenSpec.ofChange recordCellsSpec)

/-- ITS FALSE NEIGHBOUR: 'it returns false'. Refute it at one input. -/
def recordCellsWrong : ChangeSpec := { name := "recordCells", fn := fun _ => fun
  | [d1, d2, d3, d4] => { results := [.lit (.bool false)], args := [d1, d2, d3, d4] }
  | _ => none }
def RecordCellsWrongFalsely : Prop := recordCellsRow.holds Tryz.pinned (OpenSpec.ofChange recordCellsWrong)

/-- 'hollowaylaw13.RecordTells': WHATEVER THE INPUT: true; the input reads as it did. -/
def recordTellsSpec : ChangeSpec := { name := "recordTells", fn := fun _ => fun
  | [d1, d2] => { results := [.lit (.bool true)], args := [d1, d2] }
  | _ => none }
def recordTellsRow : OpenClaim := { program := "ytkjpmkopnkkbmaagreatdoor", sum := "c07a1a1d66b8c583e5b386644d48898437ce3687411198b9097aaf6000eac9b2", func := "holloway/hollowaylaw13.RecordTells", spec := "recordTells", inPlace := ["internal/reflectlite.ValueOf", "(internal/reflectlite.Value).Type", "(internal/reflectlite.Value).IsNil", "internal/reflectlite.TypeOf", "(internal/reflectlite.Value).Elem", "(internal/reflectlite.Value).Set"], unfollowed := true, recurses := true, named := ["errors.errorType"], apart := false, laid := [("errors.errorType", laid_errors_errorType)] }
def RecordTellsSaid : Prop := recordTellsRow.holds Tryz.pinned (OpenSpec.ofChange recordTellsSpec)

/-- ITS FALSE NEIGHBOUR: 'it returns false'. Refute it at one input. -/
def recordTellsWrong : ChangeSpec := { name := "recordTells", fn := fun _ => fun
  | [d1, d2] => { results := [.lit (.bool false)], args := [d1, d2] }
  | _ => none }
def RecordTellsWrongFalsely : Prop := recordTellsRow.holds Tryz.pinned (OpenSpec.ofChange recordTellsWrong)

/- THE SECOND FORM. 'bulk': how many values and letters a reading holds, each counted each time it is reached (what is shared counts as often as it is met; a slice's spare places count too). A statement '..UptoSaid' is the law's where the arguments, and the package variables that the reading takes, are together of bulk at most 1048576: NARROWER than '..Said'. Prove '..Said' where nothing that the law and all that it calls make is longer than what came in: it says more and counts as full. Else prove '..UptoSaid'. A law counts once. -/
mutual
def uptoBulk {H : Type} : DataW H → Nat
  | .lit (.string bytes) => bytes.length + 1
  | .lit _ => 1
  | .nil => 1
  | .ptr d => uptoBulk d + 1
  | .slice elems spare => uptoBulkAll elems + uptoBulkAll spare + 1
  | .agg parts => uptoBulkAll parts + 1
  | .iface _ d => uptoBulk d + 1
  | .map entries => uptoBulkEntries entries + 1
  | .held _ => 1
def uptoBulkAll {H : Type} : List (DataW H) → Nat
  | [] => 0
  | d :: r => uptoBulk d + uptoBulkAll r
def uptoBulkEntries {H : Type} : List (Lit × DataW H) → Nat
  | [] => 0
  | x :: r => uptoBulkEntry x + uptoBulkEntries r
def uptoBulkEntry {H : Type} : Lit × DataW H → Nat
  | (.string bytes, d) => bytes.length + uptoBulk d + 1
  | (_, d) => uptoBulk d + 1
 end
def uptoSmall : (H : Type) → List (DataW H) → Bool := fun _ ds => decide (uptoBulkAll ds ≤ 1048576)
def OpenSpec.upto (s : _root_.Go.ChangeSpec) : _root_.Go.OpenSpec := { _root_.Go.OpenSpec.ofChange s with cond := some uptoSmall }

/-- 'hollowaylaw9.InnerBegins', WHERE WHAT IT READS IS OF BULK AT MOST 1048576: true; the input reads as it did. -/
def innerBeginsUptoRow : OpenClaim := { program := "ytkjpmkopnkkbmaagreatdoor", sum := "c07a1a1d66b8c583e5b386644d48898437ce3687411198b9097aaf6000eac9b2", func := "holloway/hollowaylaw9.InnerBegins", spec := "innerBegins", inPlace := ["internal/reflectlite.ValueOf", "(internal/reflectlite.Value).Type", "(internal/reflectlite.Value).IsNil", "internal/reflectlite.TypeOf", "(internal/reflectlite.Value).Elem", "(internal/reflectlite.Value).Set"], unfollowed := true, recurses := true, named := ["errors.errorType"], apart := false, laid := [("errors.errorType", laid_errors_errorType)], narrowed := true }
def InnerBeginsUptoSaid : Prop := innerBeginsUptoRow.holds Tryz.pinned (OpenSpec.upto innerBeginsSpec)

/-- 'hollowaylaw9.InnerSteps', WHERE WHAT IT READS IS OF BULK AT MOST 1048576: true; the input reads as it did. -/
def innerStepsUptoRow : OpenClaim := { program := "ytkjpmkopnkkbmaagreatdoor", sum := "c07a1a1d66b8c583e5b386644d48898437ce3687411198b9097aaf6000eac9b2", func := "holloway/hollowaylaw9.InnerSteps", spec := "innerSteps", inPlace := ["internal/reflectlite.ValueOf", "(internal/reflectlite.Value).Type", "(internal/reflectlite.Value).IsNil", "internal/reflectlite.TypeOf", "(internal/reflectlite.Value).Elem", "(internal/reflectlite.Value).Set"], unfollowed := true, recurses := true, named := ["errors.errorType"], apart := false, laid := [("errors.errorType", laid_errors_errorType)], narrowed := true }
def InnerStepsUptoSaid : Prop := innerStepsUptoRow.holds Tryz.pinned (OpenSpec.upto innerStepsSpec)

/-- 'hollowaylaw13.RecordStays', WHERE WHAT IT READS IS OF BULK AT MOST 1048576: true; the input reads as it did. -/
def recordStaysUptoRow : OpenClaim := { program := "ytkjpmkopnkkbmaagreatdoor", sum := "c07a1a1d66b8c583e5b386644d48898437ce3687411198b9097aaf6000eac9b2", func := "holloway/hollowaylaw13.RecordStays", spec := "recordStays", inPlace := ["internal/reflectlite.ValueOf", "(internal/reflectlite.Value).Type", "(internal/reflectlite.Value).IsNil", "internal/reflectlite.TypeOf", "(internal/reflectlite.Value).Elem", "(internal/reflectlite.Value).Set"], unfollowed := true, recurses := true, named := ["errors.errorType"], apart := false, laid := [("errors.errorType", laid_errors_errorType)], narrowed := true }
def RecordStaysUptoSaid : Prop := recordStaysUptoRow.holds Tryz.pinned (OpenSpec.upto recordStaysSpec)

/-- 'hollowaylaw13.RecordCells', WHERE WHAT IT READS IS OF BULK AT MOST 1048576: true; the input reads as it did. -/
def recordCellsUptoRow : OpenClaim := { program := "ytkjpmkopnkkbmaagreatdoor", sum := "c07a1a1d66b8c583e5b386644d48898437ce3687411198b9097aaf6000eac9b2", func := "holloway/hollowaylaw13.RecordCells", spec := "recordCells", inPlace := ["internal/reflectlite.ValueOf", "(internal/reflectlite.Value).Type", "(internal/reflectlite.Value).IsNil", "internal/reflectlite.TypeOf", "(internal/reflectlite.Value).Elem", "(internal/reflectlite.Value).Set"], unfollowed := true, recurses := true, named := ["errors.errorType"], apart := false, laid := [("errors.errorType", laid_errors_errorType)], narrowed := true }
def RecordCellsUptoSaid : Prop := recordCellsUptoRow.holds Tryz.pinned (OpenSpec.upto recordCellsSpec)

/-- 'hollowaylaw13.RecordTells', WHERE WHAT IT READS IS OF BULK AT MOST 1048576: true; the input reads as it did. -/
def recordTellsUptoRow : OpenClaim := { program := "ytkjpmkopnkkbmaagreatdoor", sum := "c07a1a1d66b8c583e5b386644d48898437ce3687411198b9097aaf6000eac9b2", func := "holloway/hollowaylaw13.RecordTells", spec := "recordTells", inPlace := ["internal/reflectlite.ValueOf", "(internal/reflectlite.Value).Type", "(internal/reflectlite.Value).IsNil", "internal/reflectlite.TypeOf", "(internal/reflectlite.Value).Elem", "(internal/reflectlite.Value).Set"], unfollowed := true, recurses := true, named := ["errors.errorType"], apart := false, laid := [("errors.errorType", laid_errors_errorType)], narrowed := true }
def RecordTellsUptoSaid : Prop := recordTellsUptoRow.holds Tryz.pinned (OpenSpec.upto recordTellsSpec)

end Rows
end Go.Proofs.YtkjpmkopnkkbmaaGreatDoor
