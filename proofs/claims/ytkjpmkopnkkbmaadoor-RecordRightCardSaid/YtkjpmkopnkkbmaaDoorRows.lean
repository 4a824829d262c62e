/-
  NARROWER THAN 'FOR EVERY INPUT', by the rows' own cells (each row's printed sentence says how): InnerFuel: laid · InnerCalls: laid · InnerStacks: laid · InnerMemory: laid · InnerCatch: laid · InnerLoops: laid · InnerTalks: laid · InnerFaults: laid · RecordRight: laid · RecordMost: laid.
  DERIVED. THE GIVEN ROWS OF THIS SEAT. 10 by the template 'for every input the law returns true; each argument reads behind the call as it read before'; 0 by the template 'total and deterministic' (their statements: YtkjpmkopnkkbmaaDoorTotals.lean).
  GIVEN WITH THE SEED: the statements are not yours to turn. If you find one false, say at which input.
  Laid BY PROGRAM, IN A SANDBOX (cutbox-rows.mjs): the forced cells as the released guide's own fill.sh prints them over the translation 65873546958bc0c5… (all of the seat's roots in one cut). By AI agents, Wed Nov 11 2026. No macro, syntax, notation, axiom, sorry.
-/
import Derived.Test.YtkjpmkopnkkbmaaDoorChecked
import GoSem.Claim
import GoSem.ClaimJoined
import GoSem.ClaimMapViews
import Derived.JoinedTies
import Derived.KernelRfl
namespace Go.Proofs.YtkjpmkopnkkbmaaDoor
/- THE CELL 'sum', in the pinned program and in every row, IS THE sha256 OF THE DUMP (.gsa) THAT YtkjpmkopnkkbmaaDoorProg.lean LOADS. Nothing in Lean hashes anything: it is a label: what it is worth is what the hold of that sum in a sandbox is worth. -/
noncomputable def Tryd.pinned : Pinned := { name := "ytkjpmkopnkkbmaadoor", sum := "65873546958bc0c5c4da62fa71c8ed98b0acd369f0c9798b36e7acf51ae0c3f9", checked := Tryd.checked }
namespace Rows
def none {H : Type} : Left H := { results := [], args := [] }

/- WHAT THE LISTED PACKAGE-LEVEL VARIABLES READ AS WHEN THE CALL BEGINS. Each datum BY PROGRAM (the guide's laid-datum.mjs) off the statement by which the dump's own 'gosem.cut.vars' lays the variable. In a bare row this is a premise. The card (YtkjpmkopnkkbmaaDoorCards.lean) ties it to the program's text. -/
def laid_errors_errorType {H : Type} : DataW H := .iface "internal/reflectlite.rtype" (.agg [.ptr (.lit (.string [101, 114, 114, 111, 114]))])

/-- 'hollowaylaw9.InnerFuel': WHATEVER THE INPUT: true; the input reads as it did. -/
def innerFuelSpec : ChangeSpec := { name := "innerFuel", fn := fun _ => fun
  | [d1, d2, d3] => { results := [.lit (.bool true)], args := [d1, d2, d3] }
  | _ => none }
def innerFuelRow : OpenClaim := { program := "ytkjpmkopnkkbmaadoor", sum := "65873546958bc0c5c4da62fa71c8ed98b0acd369f0c9798b36e7acf51ae0c3f9", func := "holloway/hollowaylaw9.InnerFuel", spec := "innerFuel", inPlace := ["internal/reflectlite.ValueOf", "(internal/reflectlite.Value).Type", "(internal/reflectlite.Value).IsNil", "internal/reflectlite.TypeOf", "(internal/reflectlite.Value).Elem", "(internal/reflectlite.Value).Set"], unfollowed := true, recurses := true, named := ["errors.errorType"], apart := false, laid := [("errors.errorType", laid_errors_errorType)] }
def InnerFuelSaid : Prop := innerFuelRow.holds Tryd.pinned (OpenSpec.ofChange innerFuelSpec)

/-- ITS FALSE NEIGHBOUR: 'it returns false'. Refute it at one input. -/
def innerFuelWrong : ChangeSpec := { name := "innerFuel", fn := fun _ => fun
  | [d1, d2, d3] => { results := [.lit (.bool false)], args := [d1, d2, d3] }
  | _ => none }
def InnerFuelWrongFalsely : Prop := innerFuelRow.holds Tryd.pinned (OpenSpec.ofChange innerFuelWrong)

/-- 'hollowaylaw9.InnerCalls': WHATEVER THE INPUT: true; the input reads as it did. -/
def innerCallsSpec : ChangeSpec := { name := "innerCalls", fn := fun _ => fun
  | [d1, d2, d3] => { results := [.lit (.bool true)], args := [d1, d2, d3] }
  | _ => none }
def innerCallsRow : OpenClaim := { program := "ytkjpmkopnkkbmaadoor", sum := "65873546958bc0c5c4da62fa71c8ed98b0acd369f0c9798b36e7acf51ae0c3f9", func := "holloway/hollowaylaw9.InnerCalls", spec := "innerCalls", inPlace := ["internal/reflectlite.ValueOf", "(internal/reflectlite.Value).Type", "(internal/reflectlite.Value).IsNil", "internal/reflectlite.TypeOf", "(internal/reflectlite.Value).Elem", "(internal/reflectlite.Value).Set"], unfollowed := true, recurses := true, named := ["errors.errorType"], apart := false, laid := [("errors.errorType", laid_errors_errorType)] }
def InnerCallsSaid : Prop := innerCallsRow.holds Tryd.pinned (OpenSpec.ofChange innerCallsSpec)

/-- ITS FALSE NEIGHBOUR: 'it returns false'. Refute it at one input. -/
def innerCallsWrong : ChangeSpec := { name := "innerCalls", fn := fun _ => fun
  | [d1, d2, d3] => { results := [.lit (.bool false)], args := [d1, d2, d3] }
  | _ => none }
def InnerCallsWrongFalsely : Prop := innerCallsRow.holds Tryd.pinned (OpenSpec.ofChange innerCallsWrong)

/-- 'hollowaylaw9.InnerStacks': WHATEVER THE INPUT: true; the input reads as it did. -/
def innerStacksSpec : ChangeSpec := { name := "innerStacks", fn := fun _ => fun
  | [d1, d2, d3, d4, d5] => { results := [.lit (.bool true)], args := [d1, d2, d3, d4, d5] }
  | _ => none }
def innerStacksRow : OpenClaim := { program := "ytkjpmkopnkkbmaadoor", sum := "65873546958bc0c5c4da62fa71c8ed98b0acd369f0c9798b36e7acf51ae0c3f9", func := "holloway/hollowaylaw9.InnerStacks", spec := "innerStacks", inPlace := ["internal/reflectlite.ValueOf", "(internal/reflectlite.Value).Type", "(internal/reflectlite.Value).IsNil", "internal/reflectlite.TypeOf", "(internal/reflectlite.Value).Elem", "(internal/reflectlite.Value).Set"], unfollowed := true, recurses := true, named := ["errors.errorType"], apart := false, laid := [("errors.errorType", laid_errors_errorType)] }
def InnerStacksSaid : Prop := innerStacksRow.holds Tryd.pinned (OpenSpec.ofChange innerStacksSpec)

/-- ITS FALSE NEIGHBOUR: 'it returns false'. Refute it at one input. -/
def innerStacksWrong : ChangeSpec := { name := "innerStacks", fn := fun _ => fun
  | [d1, d2, d3, d4, d5] => { results := [.lit (.bool false)], args := [d1, d2, d3, d4, d5] }
  | _ => none }
def InnerStacksWrongFalsely : Prop := innerStacksRow.holds Tryd.pinned (OpenSpec.ofChange innerStacksWrong)

/-- 'hollowaylaw9.InnerMemory': WHATEVER THE INPUT: true; the input reads as it did. -/
def innerMemorySpec : ChangeSpec := { name := "innerMemory", fn := fun _ => fun
  | [d1, d2, d3] => { results := [.lit (.bool true)], args := [d1, d2, d3] }
  | _ => none }
def innerMemoryRow : OpenClaim := { program := "ytkjpmkopnkkbmaadoor", sum := "65873546958bc0c5c4da62fa71c8ed98b0acd369f0c9798b36e7acf51ae0c3f9", func := "holloway/hollowaylaw9.InnerMemory", spec := "innerMemory", inPlace := ["internal/reflectlite.ValueOf", "(internal/reflectlite.Value).Type", "(internal/reflectlite.Value).IsNil", "internal/reflectlite.TypeOf", "(internal/reflectlite.Value).Elem", "(internal/reflectlite.Value).Set"], unfollowed := true, recurses := true, named := ["errors.errorType"], apart := false, laid := [("errors.errorType", laid_errors_errorType)] }
def InnerMemorySaid : Prop := innerMemoryRow.holds Tryd.pinned (OpenSpec.ofChange innerMemorySpec)

/-- ITS FALSE NEIGHBOUR: 'it returns false'. Refute it at one input. -/
def innerMemoryWrong : ChangeSpec := { name := "innerMemory", fn := fun _ => fun
  | [d1, d2, d3] => { results := [.lit (.bool false)], args := [d1, d2, d3] }
  | _ => none }
def InnerMemoryWrongFalsely : Prop := innerMemoryRow.holds Tryd.pinned (OpenSpec.ofChange innerMemoryWrong)

/-- 'hollowaylaw9.InnerCatch': WHATEVER THE INPUT: true; the input reads as it did. -/
def innerCatchSpec : ChangeSpec := { name := "innerCatch", fn := fun _ => fun
  | [d1, d2, d3] => { results := [.lit (.bool true)], args := [d1, d2, d3] }
  | _ => none }
def innerCatchRow : OpenClaim := { program := "ytkjpmkopnkkbmaadoor", sum := "65873546958bc0c5c4da62fa71c8ed98b0acd369f0c9798b36e7acf51ae0c3f9", func := "holloway/hollowaylaw9.InnerCatch", spec := "innerCatch", inPlace := ["internal/reflectlite.ValueOf", "(internal/reflectlite.Value).Type", "(internal/reflectlite.Value).IsNil", "internal/reflectlite.TypeOf", "(internal/reflectlite.Value).Elem", "(internal/reflectlite.Value).Set"], unfollowed := true, recurses := true, named := ["errors.errorType"], apart := false, laid := [("errors.errorType", laid_errors_errorType)] }
def InnerCatchSaid : Prop := innerCatchRow.holds Tryd.pinned (OpenSpec.ofChange innerCatchSpec)

/-- ITS FALSE NEIGHBOUR: 'it returns false'. Refute it at one input. -/
def innerCatchWrong : ChangeSpec := { name := "innerCatch", fn := fun _ => fun
  | [d1, d2, d3] => { results := [.lit (.bool false)], args := [d1, d2, d3] }
  | _ => none }
def InnerCatchWrongFalsely : Prop := innerCatchRow.holds Tryd.pinned (OpenSpec.ofChange innerCatchWrong)

/-- 'hollowaylaw9.InnerLoops': WHATEVER THE INPUT: true; the input reads as it did. -/
def innerLoopsSpec : ChangeSpec := { name := "innerLoops", fn := fun _ => fun
  | [d1, d2, d3] => { results := [.lit (.bool true)], args := [d1, d2, d3] }
  | _ => none }
def innerLoopsRow : OpenClaim := { program := "ytkjpmkopnkkbmaadoor", sum := "65873546958bc0c5c4da62fa71c8ed98b0acd369f0c9798b36e7acf51ae0c3f9", func := "holloway/hollowaylaw9.InnerLoops", spec := "innerLoops", inPlace := ["internal/reflectlite.ValueOf", "(internal/reflectlite.Value).Type", "(internal/reflectlite.Value).IsNil", "internal/reflectlite.TypeOf", "(internal/reflectlite.Value).Elem", "(internal/reflectlite.Value).Set"], unfollowed := true, recurses := true, named := ["errors.errorType"], apart := false, laid := [("errors.errorType", laid_errors_errorType)] }
def InnerLoopsSaid : Prop := innerLoopsRow.holds Tryd.pinned (OpenSpec.ofChange innerLoopsSpec)

/-- ITS FALSE NEIGHBOUR: 'it returns false'. Refute it at one input. -/
def innerLoopsWrong : ChangeSpec := { name := "innerLoops", fn := fun _ => fun
  | [d1, d2, d3] => { results := [.lit (.bool false)], args := [d1, d2, d3] }
  | _ => none }
def InnerLoopsWrongFalsely : Prop := innerLoopsRow.holds Tryd.pinned (OpenSpec.ofChange innerLoopsWrong)

/-- 'hollowaylaw9.InnerTalks': WHATEVER THE INPUT: true; the input reads as it did. -/
def innerTalksSpec : ChangeSpec := { name := "innerTalks", fn := fun _ => fun
  | [d1, d2] => { results := [.lit (.bool true)], args := [d1, d2] }
  | _ => none }
def innerTalksRow : OpenClaim := { program := "ytkjpmkopnkkbmaadoor", sum := "65873546958bc0c5c4da62fa71c8ed98b0acd369f0c9798b36e7acf51ae0c3f9", func := "holloway/hollowaylaw9.InnerTalks", spec := "innerTalks", inPlace := ["internal/reflectlite.ValueOf", "(internal/reflectlite.Value).Type", "(internal/reflectlite.Value).IsNil", "internal/reflectlite.TypeOf", "(internal/reflectlite.Value).Elem", "(internal/reflectlite.Value).Set"], unfollowed := true, recurses := true, named := ["errors.errorType"], apart := false, laid := [("errors.errorType", laid_errors_errorType)] }
def InnerTalksSaid : Prop := innerTalksRow.holds Tryd.pinned (OpenSpec.ofChange innerTalksSpec)

/-- ITS FALSE NEIGHBOUR: 'it returns false'. Refute it at one input. -/
def innerTalksWrong : ChangeSpec := { name := "innerTalks", fn := fun _ => fun
  | [d1, d2] => { results := [.lit (.bool false)], args := [d1, d2] }
  | _ => none }
def InnerTalksWrongFalsely : Prop := innerTalksRow.holds Tryd.pinned (OpenSpec.ofChange innerTalksWrong)

/-- 'hollowaylaw9.InnerFaults': WHATEVER THE INPUT: true; the input reads as it did. -/
def innerFaultsSpec : ChangeSpec := { name := "innerFaults", fn := fun _ => fun
  | [d1, d2, d3] => { results := [.lit (.bool true)], args := [d1, d2, d3] }
  | _ => none }
def innerFaultsRow : OpenClaim := { program := "ytkjpmkopnkkbmaadoor", sum := "65873546958bc0c5c4da62fa71c8ed98b0acd369f0c9798b36e7acf51ae0c3f9", func := "holloway/hollowaylaw9.InnerFaults", spec := "innerFaults", inPlace := ["internal/reflectlite.ValueOf", "(internal/reflectlite.Value).Type", "(internal/reflectlite.Value).IsNil", "internal/reflectlite.TypeOf", "(internal/reflectlite.Value).Elem", "(internal/reflectlite.Value).Set"], unfollowed := true, recurses := true, named := ["errors.errorType"], apart := false, laid := [("errors.errorType", laid_errors_errorType)] }
def InnerFaultsSaid : Prop := innerFaultsRow.holds Tryd.pinned (OpenSpec.ofChange innerFaultsSpec)

/-- ITS FALSE NEIGHBOUR: 'it returns false'. Refute it at one input. -/
def innerFaultsWrong : ChangeSpec := { name := "innerFaults", fn := fun _ => fun
  | [d1, d2, d3] => { results := [.lit (.bool false)], args := [d1, d2, d3] }
  | _ => none }
def InnerFaultsWrongFalsely : Prop := innerFaultsRow.holds Tryd.pinned (OpenSpec.ofChange innerFaultsWrong)

/-- 'hollowaylaw13.RecordRight': WHATEVER THE INPUT: true; the input reads as it did. -/
def recordRightSpec : ChangeSpec := { name := "recordRight", fn := fun _ => fun
  | [d] => { results := [.lit (.bool true)], args := [d] }
  | _ => none }
def recordRightRow : OpenClaim := { program := "ytkjpmkopnkkbmaadoor", sum := "65873546958bc0c5c4da62fa71c8ed98b0acd369f0c9798b36e7acf51ae0c3f9", func := "holloway/hollowaylaw13.RecordRight", spec := "recordRight", inPlace := ["internal/reflectlite.ValueOf", "(internal/reflectlite.Value).Type", "(internal/reflectlite.Value).IsNil", "internal/reflectlite.TypeOf", "(internal/reflectlite.Value).Elem", "(internal/reflectlite.Value).Set"], unfollowed := true, recurses := true, named := ["errors.errorType"], apart := false, laid := [("errors.errorType", laid_errors_errorType)] }
def RecordRightSaid : Prop := recordRightRow.holds Tryd.pinned (OpenSpec.ofChange recordRightSpec)

/-- ITS FALSE NEIGHBOUR: 'it returns false'. Refute it at one input. -/
def recordRightWrong : ChangeSpec := { name := "recordRight", fn := fun _ => fun
  | [d] => { results := [.lit (.bool false)], args := [d] }
  | _ => none }
def RecordRightWrongFalsely : Prop := recordRightRow.holds Tryd.pinned (OpenSpec.ofChange recordRightWrong)

/-- 'hollowaylaw13.RecordMost': WHATEVER THE INPUT: true; the input reads as it did. -/
def recordMostSpec : ChangeSpec := { name := "recordMost", fn := fun _ => fun
  | [d1, d2, d3] => { results := [.lit (.bool true)], args := [d1, d2, d3] }
  | _ => none }
def recordMostRow : OpenClaim := { program := "ytkjpmkopnkkbmaadoor", sum := "65873546958bc0c5c4da62fa71c8ed98b0acd369f0c9798b36e7acf51ae0c3f9", func := "holloway/hollowaylaw13.RecordMost", spec := "recordMost", inPlace := ["internal/reflectlite.ValueOf", "(internal/reflectlite.Value).Type", "(internal/reflectlite.Value).IsNil", "internal/reflectlite.TypeOf", "(internal/reflectlite.Value).Elem", "(internal/reflectlite.Value).Set"], unfollowed := true, recurses := true, named := ["errors.errorType"], apart := false, laid := [("errors.errorType", laid_errors_errorType)] }
def RecordMostSaid : Prop := recordMostRow.holds Tryd.pinned (OpenSpec.ofChange recordMostSpec)

/-- ITS FALSE NEIGHBOUR: 'it returns false'. Refute it at one input. -/
def recordMostWrong : ChangeSpec := { name := "recordMost", fn := fun _ => fun
  | [d1, d2, d3] => { results := [.lit (.bool false)], args := [d1, d2, d3] }
  | _ => none }
def RecordMostWrongFalsely : Prop := recordMostRow.holds Tryd.pinned (OpenSpec.ofChange recordMostWrong)

/- THE SECOND FORM. 'bulk': how many values and letters a reading holds, each counted each time it is reached (what is shared counts as often as it is met; a slice's spare places count too). A statement '..UptoSaid' is the law's where the arguments, and the package variables that the reading takes, are together of bulk at most 1048576: NARROWER than '..Said'. Prove '..Said' where nothing that the law and all that it calls make is longer than what came in: it says more and counts as full. Else prove '..UptoSaid'. A law counts once. -/
mutual
def uptoBulk {H : Type} : DataW H → Nat
  | .lit (.string bytes) => bytes.length + 1
  | .lit _ => 1
  | .nil => 1
  | .ptr d => uptoBulk d + 1
  | .slice elems spare => uptoBulkAll elems + uptoBulkAll spare + 1
  | .agg parts => uptoBulkAll parts + 1
  | .iface _ d => uptoBulk d + 1
  | .map entries => uptoBulkEntries entries + 1
  | .held _ => 1
def uptoBulkAll {H : Type} : List (DataW H) → Nat
  | [] => 0
  | d :: r => uptoBulk d + uptoBulkAll r
def uptoBulkEntries {H : Type} : List (Lit × DataW H) → Nat
  | [] => 0
  | x :: r => uptoBulkEntry x + uptoBulkEntries r
def uptoBulkEntry {H : Type} : Lit × DataW H → Nat
  | (.string bytes, d) => bytes.length + uptoBulk d + 1
  | (_, d) => uptoBulk d + 1
 end
def uptoSmall : (H : Type) → List (DataW H) → Bool := fun _ ds => decide (uptoBulkAll ds ≤ 1048576)
def OpenSpec.upto (s : _root_.Go.ChangeSpec) : _root_.Go.OpenSpec := { _root_.Go.OpenSpec.ofChange s with cond := some uptoSmall }

/-- 'hollowaylaw9.InnerFuel', WHERE WHAT IT READS IS OF BULK AT MOST 1048576: true; the input reads as it did. -/
def innerFuelUptoRow : OpenClaim := { program := "ytkjpmkopnkkbmaadoor", sum := "65873546958bc0c5c4da62fa71c8ed98b0acd369f0c9798b36e7acf51ae0c3f9", func := "holloway/hollowaylaw9.InnerFuel", spec := "innerFuel", inPlace := ["internal/reflectlite.ValueOf", "(internal/reflectlite.Value).Type", "(internal/reflectlite.Value).IsNil", "internal/reflectlite.TypeOf", "(internal/reflectlite.Value).Elem", "(internal/reflectlite.Value).Set"], unfollowed := true, recurses := true, named := ["errors.errorType"], apart := false, laid := [("errors.errorType", laid_errors_errorType)], narrowed := true }
def InnerFuelUptoSaid : Prop := innerFuelUptoRow.holds Tryd.pinned (OpenSpec.upto innerFuelSpec)

/-- 'hollowaylaw9.InnerCalls', WHERE WHAT IT READS IS OF BULK AT MOST 1048576: true; the input reads as it did. -/
def innerCallsUptoRow : OpenClaim := { program := "ytkjpmkopnkkbmaadoor", sum := "65873546958bc0c5c4da62fa71c8ed98b0acd369f0c9798b36e7acf51ae0c3f9", func := "holloway/hollowaylaw9.InnerCalls", spec := "innerCalls", inPlace := ["internal/reflectlite.ValueOf", "(internal/reflectlite.Value).Type", "(internal/reflectlite.Value).IsNil", "internal/reflectlite.TypeOf", "(internal/reflectlite.Value).Elem", "(internal/reflectlite.Value).Set"], unfollowed := true, recurses := true, named := ["errors.errorType"], apart := false, laid := [("errors.errorType", laid_errors_errorType)], narrowed := true }
def InnerCallsUptoSaid : Prop := innerCallsUptoRow.holds Tryd.pinned (OpenSpec.upto innerCallsSpec)

/-- 'hollowaylaw9.InnerStacks', WHERE WHAT IT READS IS OF BULK AT MOST 1048576: true; the input reads as it did. -/
def innerStacksUptoRow : OpenClaim := { program := "ytkjpmkopnkkbmaadoor", sum := "65873546958bc0c5c4da62fa71c8ed98b0acd369f0c9798b36e7acf51ae0c3f9", func := "holloway/hollowaylaw9.InnerStacks", spec := "innerStacks", inPlace := ["internal/reflectlite.ValueOf", "(internal/reflectlite.Value).Type", "(internal/reflectlite.Value).IsNil", "internal/reflectlite.TypeOf", "(internal/reflectlite.Value).Elem", "(internal/reflectlite.Value).Set"], unfollowed := true, recurses := true, named := ["errors.errorType"], apart := false, laid := [("errors.errorType", laid_errors_errorType)], narrowed := true }
def InnerStacksUptoSaid : Prop := innerStacksUptoRow.holds Tryd.pinned (OpenSpec.upto innerStacksSpec)

/-- 'hollowaylaw9.InnerMemory', WHERE WHAT IT READS IS OF BULK AT MOST 1048576: true; the input reads as it did. -/
def innerMemoryUptoRow : OpenClaim := { program := "ytkjpmkopnkkbmaadoor", sum := "65873546958bc0c5c4da62fa71c8ed98b0acd369f0c9798b36e7acf51ae0c3f9", func := "holloway/hollowaylaw9.InnerMemory", spec := "innerMemory", inPlace := ["internal/reflectlite.ValueOf", "(internal/reflectlite.Value).Type", "(internal/reflectlite.Value).IsNil", "internal/reflectlite.TypeOf", "(internal/reflectlite.Value).Elem", "(internal/reflectlite.Value).Set"], unfollowed := true, recurses := true, named := ["errors.errorType"], apart := false, laid := [("errors.errorType", laid_errors_errorType)], narrowed := true }
def InnerMemoryUptoSaid : Prop := innerMemoryUptoRow.holds Tryd.pinned (OpenSpec.upto innerMemorySpec)

/-- 'hollowaylaw9.InnerCatch', WHERE WHAT IT READS IS OF BULK AT MOST 1048576: true; the input reads as it did. -/
def innerCatchUptoRow : OpenClaim := { program := "ytkjpmkopnkkbmaadoor", sum := "65873546958bc0c5c4da62fa71c8ed98b0acd369f0c9798b36e7acf51ae0c3f9", func := "holloway/hollowaylaw9.InnerCatch", spec := "innerCatch", inPlace := ["internal/reflectlite.ValueOf", "(internal/reflectlite.Value).Type", "(internal/reflectlite.Value).IsNil", "internal/reflectlite.TypeOf", "(internal/reflectlite.Value).Elem", "(internal/reflectlite.Value).Set"], unfollowed := true, recurses := true, named := ["errors.errorType"], apart := false, laid := [("errors.errorType", laid_errors_errorType)], narrowed := true }
def InnerCatchUptoSaid : Prop := innerCatchUptoRow.holds Tryd.pinned (OpenSpec.upto innerCatchSpec)

/-- 'hollowaylaw9.InnerLoops', WHERE WHAT IT READS IS OF BULK AT MOST 1048576: true; the input reads as it did. -/
def innerLoopsUptoRow : OpenClaim := { program := "ytkjpmkopnkkbmaadoor", sum := "65873546958bc0c5c4da62fa71c8ed98b0acd369f0c9798b36e7acf51ae0c3f9", func := "holloway/hollowaylaw9.InnerLoops", spec := "innerLoops", inPlace := ["internal/reflectlite.ValueOf", "(internal/reflectlite.Value).Type", "(internal/reflectlite.Value).IsNil", "internal/reflectlite.TypeOf", "(internal/reflectlite.Value).Elem", "(internal/reflectlite.Value).Set"], unfollowed := true, recurses := true, named := ["errors.errorType"], apart := false, laid := [("errors.errorType", laid_errors_errorType)], narrowed := true }
def InnerLoopsUptoSaid : Prop := innerLoopsUptoRow.holds Tryd.pinned (OpenSpec.upto innerLoopsSpec)

/-- 'hollowaylaw9.InnerTalks', WHERE WHAT IT READS IS OF BULK AT MOST 1048576: true; the input reads as it did. -/
def innerTalksUptoRow : OpenClaim := { program := "ytkjpmkopnkkbmaadoor", sum := "65873546958bc0c5c4da62fa71c8ed98b0acd369f0c9798b36e7acf51ae0c3f9", func := "holloway/hollowaylaw9.InnerTalks", spec := "innerTalks", inPlace := ["internal/reflectlite.ValueOf", "(internal/reflectlite.Value).Type", "(internal/reflectlite.Value).IsNil", "internal/reflectlite.TypeOf", "(internal/reflectlite.Value).Elem", "(internal/reflectlite.Value).Set"], unfollowed := true, recurses := true, named := ["errors.errorType"], apart := false, laid := [("errors.errorType", laid_errors_errorType)], narrowed := true }
def InnerTalksUptoSaid : Prop := innerTalksUptoRow.holds Tryd.pinned (OpenSpec.upto innerTalksSpec)

/-- 'hollowaylaw9.InnerFaults', WHERE WHAT IT READS IS OF BULK AT MOST 1048576: true; the input reads as it did. -/
def innerFaultsUptoRow : OpenClaim := { program := "ytkjpmkopnkkbmaadoor", sum := "65873546958bc0c5c4da62fa71c8ed98b0acd369f0c9798b36e7acf51ae0c3f9", func := "holloway/hollowaylaw9.InnerFaults", spec := "innerFaults", inPlace := ["internal/reflectlite.ValueOf", "(internal/reflectlite.Value).Type", "(internal/reflectlite.Value).IsNil", "internal/reflectlite.TypeOf", "(internal/reflectlite.Value).Elem", "(internal/reflectlite.Value).Set"], unfollowed := true, recurses := true, named := ["errors.errorType"], apart := false, laid := [("errors.errorType", laid_errors_errorType)], narrowed := true }
def InnerFaultsUptoSaid : Prop := innerFaultsUptoRow.holds Tryd.pinned (OpenSpec.upto innerFaultsSpec)

/-- 'hollowaylaw13.RecordRight', WHERE WHAT IT READS IS OF BULK AT MOST 1048576: true; the input reads as it did. -/
def recordRightUptoRow : OpenClaim := { program := "ytkjpmkopnkkbmaadoor", sum := "65873546958bc0c5c4da62fa71c8ed98b0acd369f0c9798b36e7acf51ae0c3f9", func := "holloway/hollowaylaw13.RecordRight", spec := "recordRight", inPlace := ["internal/reflectlite.ValueOf", "(internal/reflectlite.Value).Type", "(internal/reflectlite.Value).IsNil", "internal/reflectlite.TypeOf", "(internal/reflectlite.Value).Elem", "(internal/reflectlite.Value).Set"], unfollowed := true, recurses := true, named := ["errors.errorType"], apart := false, laid := [("errors.errorType", laid_errors_errorType)], narrowed := true }
def RecordRightUptoSaid : Prop := recordRightUptoRow.holds Tryd.pinned (OpenSpec.upto recordRightSpec)

/-- 'hollowaylaw13.RecordMost', WHERE WHAT IT READS IS OF BULK AT MOST 1048576: true; the input reads as it did. -/
def recordMostUptoRow : OpenClaim := { program := "ytkjpmkopnkkbmaadoor", sum := "65873546958bc0c5c4da62fa71c8ed98b0acd369f0c9798b36e7acf51ae0c3f9", func := "holloway/hollowaylaw13.RecordMost", spec := "recordMost", inPlace := ["internal/reflectlite.ValueOf", "(internal/reflectlite.Value).Type", "(internal/reflectlite.Value).IsNil", "internal/reflectlite.TypeOf", "(internal/reflectlite.Value).Elem", "(internal/reflectlite.Value).Set"], unfollowed := true, recurses := true, named := ["errors.errorType"], apart := false, laid := [("errors.errorType", laid_errors_errorType)], narrowed := true }
def RecordMostUptoSaid : Prop := recordMostUptoRow.holds Tryd.pinned (OpenSpec.upto recordMostSpec)

end Rows
end Go.Proofs.YtkjpmkopnkkbmaaDoor
