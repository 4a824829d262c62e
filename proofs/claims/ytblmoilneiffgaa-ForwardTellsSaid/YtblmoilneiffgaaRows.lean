/-
  No cell of these rows narrows 'for every input' (looked for: loops, veiled, ifaces, maps, wideKeys, modest, calm, conditions, laid).
  DERIVED. THE GIVEN ROWS OF THIS SEAT. 13 by the template 'for every input the law returns true; each argument reads behind the call as it read before'; 0 by the template 'total and deterministic' (their statements: YtblmoilneiffgaaTotals.lean).
  GIVEN WITH THE SEED: the statements are not yours to turn. If you find one false, say at which input.
  Laid BY PROGRAM, IN A SANDBOX (cutbox-rows.mjs): the forced cells as the released guide's own fill.sh prints them over the translation 690f3904fe6a1aff… (all of the seat's roots in one cut). By AI agents, Wed Nov 11 2026. No macro, syntax, notation, axiom, sorry.
-/
import Derived.Test.YtblmoilneiffgaaChecked
import GoSem.Claim
import GoSem.ClaimJoined
import GoSem.ClaimMapViews
import Derived.JoinedTies
import Derived.KernelRfl
namespace Go.Proofs.Ytblmoilneiffgaa
/- THE CELL 'sum', in the pinned program and in every row, IS THE sha256 OF THE DUMP (.gsa) THAT YtblmoilneiffgaaProg.lean LOADS. Nothing in Lean hashes anything: it is a label: what it is worth is what the hold of that sum in a sandbox is worth. -/
noncomputable def Try.pinned : Pinned := { name := "ytblmoilneiffgaa", sum := "690f3904fe6a1aff8d151f203c3fcd7a91ce97843cb251ca61c490094b51257e", checked := Try.checked }
namespace Rows
def none {H : Type} : Left H := { results := [], args := [] }

/-- 'hollowaylaw15.EvalWatched': WHATEVER THE INPUT: true; the input reads as it did. -/
def evalWatchedSpec : ChangeSpec := { name := "evalWatched", fn := fun _ => fun
  | [d1, d2] => { results := [.lit (.bool true)], args := [d1, d2] }
  | _ => none }
def evalWatchedRow : OpenClaim := { program := "ytblmoilneiffgaa", sum := "690f3904fe6a1aff8d151f203c3fcd7a91ce97843cb251ca61c490094b51257e", func := "holloway/hollowaylaw15.EvalWatched", spec := "evalWatched", plainKeys := false, apart := false }
def EvalWatchedSaid : Prop := evalWatchedRow.holds Try.pinned (OpenSpec.ofChange evalWatchedSpec)

/-- ITS FALSE NEIGHBOUR: 'it returns false'. Refute it at one input. -/
def evalWatchedWrong : ChangeSpec := { name := "evalWatched", fn := fun _ => fun
  | [d1, d2] => { results := [.lit (.bool false)], args := [d1, d2] }
  | _ => none }
def EvalWatchedWrongFalsely : Prop := evalWatchedRow.holds Try.pinned (OpenSpec.ofChange evalWatchedWrong)

/-- 'hollowaylaw15.EvalEmpty': WHATEVER THE INPUT: true; the input reads as it did. -/
def evalEmptySpec : ChangeSpec := { name := "evalEmpty", fn := fun _ => fun
  | [d1, d2, d3, d4] => { results := [.lit (.bool true)], args := [d1, d2, d3, d4] }
  | _ => none }
def evalEmptyRow : OpenClaim := { program := "ytblmoilneiffgaa", sum := "690f3904fe6a1aff8d151f203c3fcd7a91ce97843cb251ca61c490094b51257e", func := "holloway/hollowaylaw15.EvalEmpty", spec := "evalEmpty", plainKeys := false, apart := false }
def EvalEmptySaid : Prop := evalEmptyRow.holds Try.pinned (OpenSpec.ofChange evalEmptySpec)

/-- ITS FALSE NEIGHBOUR: 'it returns false'. Refute it at one input. -/
def evalEmptyWrong : ChangeSpec := { name := "evalEmpty", fn := fun _ => fun
  | [d1, d2, d3, d4] => { results := [.lit (.bool false)], args := [d1, d2, d3, d4] }
  | _ => none }
def EvalEmptyWrongFalsely : Prop := evalEmptyRow.holds Try.pinned (OpenSpec.ofChange evalEmptyWrong)

/-- 'hollowaylaw15.EvalGuards': WHATEVER THE INPUT: true; the input reads as it did. -/
def evalGuardsSpec : ChangeSpec := { name := "evalGuards", fn := fun _ => fun
  | [d1, d2, d3] => { results := [.lit (.bool true)], args := [d1, d2, d3] }
  | _ => none }
def evalGuardsRow : OpenClaim := { program := "ytblmoilneiffgaa", sum := "690f3904fe6a1aff8d151f203c3fcd7a91ce97843cb251ca61c490094b51257e", func := "holloway/hollowaylaw15.EvalGuards", spec := "evalGuards", plainKeys := false, apart := false }
def EvalGuardsSaid : Prop := evalGuardsRow.holds Try.pinned (OpenSpec.ofChange evalGuardsSpec)

/-- ITS FALSE NEIGHBOUR: 'it returns false'. Refute it at one input. -/
def evalGuardsWrong : ChangeSpec := { name := "evalGuards", fn := fun _ => fun
  | [d1, d2, d3] => { results := [.lit (.bool false)], args := [d1, d2, d3] }
  | _ => none }
def EvalGuardsWrongFalsely : Prop := evalGuardsRow.holds Try.pinned (OpenSpec.ofChange evalGuardsWrong)

/-- 'hollowaylaw17.FoldTells': WHATEVER THE INPUT: true; the input reads as it did. -/
def foldTellsSpec : ChangeSpec := { name := "foldTells", fn := fun _ => fun
  | [d] => { results := [.lit (.bool true)], args := [d] }
  | _ => none }
def foldTellsRow : OpenClaim := { program := "ytblmoilneiffgaa", sum := "690f3904fe6a1aff8d151f203c3fcd7a91ce97843cb251ca61c490094b51257e", func := "holloway/hollowaylaw17.FoldTells", spec := "foldTells", plainKeys := false, apart := false }
def FoldTellsSaid : Prop := foldTellsRow.holds Try.pinned (OpenSpec.ofChange foldTellsSpec)

/-- ITS FALSE NEIGHBOUR: 'it returns false'. Refute it at one input. -/
def foldTellsWrong : ChangeSpec := { name := "foldTells", fn := fun _ => fun
  | [d] => { results := [.lit (.bool false)], args := [d] }
  | _ => none }
def FoldTellsWrongFalsely : Prop := foldTellsRow.holds Try.pinned (OpenSpec.ofChange foldTellsWrong)

/-- 'hollowaylaw17.FoldHolds': WHATEVER THE INPUT: true; the input reads as it did. -/
def foldHoldsSpec : ChangeSpec := { name := "foldHolds", fn := fun _ => fun
  | [d1, d2, d3] => { results := [.lit (.bool true)], args := [d1, d2, d3] }
  | _ => none }
def foldHoldsRow : OpenClaim := { program := "ytblmoilneiffgaa", sum := "690f3904fe6a1aff8d151f203c3fcd7a91ce97843cb251ca61c490094b51257e", func := "holloway/hollowaylaw17.FoldHolds", spec := "foldHolds", plainKeys := false, apart := false }
def FoldHoldsSaid : Prop := foldHoldsRow.holds Try.pinned (OpenSpec.ofChange foldHoldsSpec)

/-- ITS FALSE NEIGHBOUR: 'it returns false'. Refute it at one input. -/
def foldHoldsWrong : ChangeSpec := { name := "foldHolds", fn := fun _ => fun
  | [d1, d2, d3] => { results := [.lit (.bool false)], args := [d1, d2, d3] }
  | _ => none }
def FoldHoldsWrongFalsely : Prop := foldHoldsRow.holds Try.pinned (OpenSpec.ofChange foldHoldsWrong)

/-- 'hollowaylaw17.FoldConsts': WHATEVER THE INPUT: true; the input reads as it did. -/
def foldConstsSpec : ChangeSpec := { name := "foldConsts", fn := fun _ => fun
  | [d1, d2] => { results := [.lit (.bool true)], args := [d1, d2] }
  | _ => none }
def foldConstsRow : OpenClaim := { program := "ytblmoilneiffgaa", sum := "690f3904fe6a1aff8d151f203c3fcd7a91ce97843cb251ca61c490094b51257e", func := "holloway/hollowaylaw17.FoldConsts", spec := "foldConsts", plainKeys := false, apart := false }
def FoldConstsSaid : Prop := foldConstsRow.holds Try.pinned (OpenSpec.ofChange foldConstsSpec)

/-- ITS FALSE NEIGHBOUR: 'it returns false'. Refute it at one input. -/
def foldConstsWrong : ChangeSpec := { name := "foldConsts", fn := fun _ => fun
  | [d1, d2] => { results := [.lit (.bool false)], args := [d1, d2] }
  | _ => none }
def FoldConstsWrongFalsely : Prop := foldConstsRow.holds Try.pinned (OpenSpec.ofChange foldConstsWrong)

/-- 'hollowaylaw18.ForwardTells': WHATEVER THE INPUT: true; the input reads as it did. -/
def forwardTellsSpec : ChangeSpec := { name := "forwardTells", fn := fun _ => fun
  | [d] => { results := [.lit (.bool true)], args := [d] }
  | _ => none }
def forwardTellsRow : OpenClaim := { program := "ytblmoilneiffgaa", sum := "690f3904fe6a1aff8d151f203c3fcd7a91ce97843cb251ca61c490094b51257e", func := "holloway/hollowaylaw18.ForwardTells", spec := "forwardTells", plainKeys := false, apart := false }
def ForwardTellsSaid : Prop := forwardTellsRow.holds Try.pinned (OpenSpec.ofChange forwardTellsSpec)

/-- ITS FALSE NEIGHBOUR: 'it returns false'. Refute it at one input. -/
def forwardTellsWrong : ChangeSpec := { name := "forwardTells", fn := fun _ => fun
  | [d] => { results := [.lit (.bool false)], args := [d] }
  | _ => none }
def ForwardTellsWrongFalsely : Prop := forwardTellsRow.holds Try.pinned (OpenSpec.ofChange forwardTellsWrong)

/-- 'hollowaylaw18.ForwardHolds': WHATEVER THE INPUT: true; the input reads as it did. -/
def forwardHoldsSpec : ChangeSpec := { name := "forwardHolds", fn := fun _ => fun
  | [d1, d2, d3] => { results := [.lit (.bool true)], args := [d1, d2, d3] }
  | _ => none }
def forwardHoldsRow : OpenClaim := { program := "ytblmoilneiffgaa", sum := "690f3904fe6a1aff8d151f203c3fcd7a91ce97843cb251ca61c490094b51257e", func := "holloway/hollowaylaw18.ForwardHolds", spec := "forwardHolds", plainKeys := false, apart := false }
def ForwardHoldsSaid : Prop := forwardHoldsRow.holds Try.pinned (OpenSpec.ofChange forwardHoldsSpec)

/-- ITS FALSE NEIGHBOUR: 'it returns false'. Refute it at one input. -/
def forwardHoldsWrong : ChangeSpec := { name := "forwardHolds", fn := fun _ => fun
  | [d1, d2, d3] => { results := [.lit (.bool false)], args := [d1, d2, d3] }
  | _ => none }
def ForwardHoldsWrongFalsely : Prop := forwardHoldsRow.holds Try.pinned (OpenSpec.ofChange forwardHoldsWrong)

/-- 'hollowaylaw18.ForwardLoads': WHATEVER THE INPUT: true; the input reads as it did. -/
def forwardLoadsSpec : ChangeSpec := { name := "forwardLoads", fn := fun _ => fun
  | [d1, d2, d3] => { results := [.lit (.bool true)], args := [d1, d2, d3] }
  | _ => none }
def forwardLoadsRow : OpenClaim := { program := "ytblmoilneiffgaa", sum := "690f3904fe6a1aff8d151f203c3fcd7a91ce97843cb251ca61c490094b51257e", func := "holloway/hollowaylaw18.ForwardLoads", spec := "forwardLoads", plainKeys := false, apart := false }
def ForwardLoadsSaid : Prop := forwardLoadsRow.holds Try.pinned (OpenSpec.ofChange forwardLoadsSpec)

/-- ITS FALSE NEIGHBOUR: 'it returns false'. Refute it at one input. -/
def forwardLoadsWrong : ChangeSpec := { name := "forwardLoads", fn := fun _ => fun
  | [d1, d2, d3] => { results := [.lit (.bool false)], args := [d1, d2, d3] }
  | _ => none }
def ForwardLoadsWrongFalsely : Prop := forwardLoadsRow.holds Try.pinned (OpenSpec.ofChange forwardLoadsWrong)

/-- 'hollowaylaw19.PruneHolds': WHATEVER THE INPUT: true; the input reads as it did. -/
def pruneHoldsSpec : ChangeSpec := { name := "pruneHolds", fn := fun _ => fun
  | [d1, d2, d3] => { results := [.lit (.bool true)], args := [d1, d2, d3] }
  | _ => none }
def pruneHoldsRow : OpenClaim := { program := "ytblmoilneiffgaa", sum := "690f3904fe6a1aff8d151f203c3fcd7a91ce97843cb251ca61c490094b51257e", func := "holloway/hollowaylaw19.PruneHolds", spec := "pruneHolds", plainKeys := false, apart := false }
def PruneHoldsSaid : Prop := pruneHoldsRow.holds Try.pinned (OpenSpec.ofChange pruneHoldsSpec)

/-- ITS FALSE NEIGHBOUR: 'it returns false'. Refute it at one input. -/
def pruneHoldsWrong : ChangeSpec := { name := "pruneHolds", fn := fun _ => fun
  | [d1, d2, d3] => { results := [.lit (.bool false)], args := [d1, d2, d3] }
  | _ => none }
def PruneHoldsWrongFalsely : Prop := pruneHoldsRow.holds Try.pinned (OpenSpec.ofChange pruneHoldsWrong)

/-- 'hollowaylaw19.PruneAll': WHATEVER THE INPUT: true; the input reads as it did. -/
def pruneAllSpec : ChangeSpec := { name := "pruneAll", fn := fun _ => fun
  | [d1, d2] => { results := [.lit (.bool true)], args := [d1, d2] }
  | _ => none }
def pruneAllRow : OpenClaim := { program := "ytblmoilneiffgaa", sum := "690f3904fe6a1aff8d151f203c3fcd7a91ce97843cb251ca61c490094b51257e", func := "holloway/hollowaylaw19.PruneAll", spec := "pruneAll", plainKeys := false, apart := false }
def PruneAllSaid : Prop := pruneAllRow.holds Try.pinned (OpenSpec.ofChange pruneAllSpec)

/-- ITS FALSE NEIGHBOUR: 'it returns false'. Refute it at one input. -/
def pruneAllWrong : ChangeSpec := { name := "pruneAll", fn := fun _ => fun
  | [d1, d2] => { results := [.lit (.bool false)], args := [d1, d2] }
  | _ => none }
def PruneAllWrongFalsely : Prop := pruneAllRow.holds Try.pinned (OpenSpec.ofChange pruneAllWrong)

/-- 'hollowaylaw20.SlotsFew': WHATEVER THE INPUT: true; the input reads as it did. -/
def slotsFewSpec : ChangeSpec := { name := "slotsFew", fn := fun _ => fun
  | [d] => { results := [.lit (.bool true)], args := [d] }
  | _ => none }
def slotsFewRow : OpenClaim := { program := "ytblmoilneiffgaa", sum := "690f3904fe6a1aff8d151f203c3fcd7a91ce97843cb251ca61c490094b51257e", func := "holloway/hollowaylaw20.SlotsFew", spec := "slotsFew", unfollowed := true, recurses := true, plainKeys := false, apart := false }
def SlotsFewSaid : Prop := slotsFewRow.holds Try.pinned (OpenSpec.ofChange slotsFewSpec)

/-- ITS FALSE NEIGHBOUR: 'it returns false'. Refute it at one input. -/
def slotsFewWrong : ChangeSpec := { name := "slotsFew", fn := fun _ => fun
  | [d] => { results := [.lit (.bool false)], args := [d] }
  | _ => none }
def SlotsFewWrongFalsely : Prop := slotsFewRow.holds Try.pinned (OpenSpec.ofChange slotsFewWrong)

/-- 'hollowaylaw20.SlotsMany': WHATEVER THE INPUT: true; the input reads as it did. -/
def slotsManySpec : ChangeSpec := { name := "slotsMany", fn := fun _ => fun
  | [d1, d2] => { results := [.lit (.bool true)], args := [d1, d2] }
  | _ => none }
def slotsManyRow : OpenClaim := { program := "ytblmoilneiffgaa", sum := "690f3904fe6a1aff8d151f203c3fcd7a91ce97843cb251ca61c490094b51257e", func := "holloway/hollowaylaw20.SlotsMany", spec := "slotsMany", unfollowed := true, recurses := true, plainKeys := false, apart := false }
def SlotsManySaid : Prop := slotsManyRow.holds Try.pinned (OpenSpec.ofChange slotsManySpec)

/-- ITS FALSE NEIGHBOUR: 'it returns false'. Refute it at one input. -/
def slotsManyWrong : ChangeSpec := { name := "slotsMany", fn := fun _ => fun
  | [d1, d2] => { results := [.lit (.bool false)], args := [d1, d2] }
  | _ => none }
def SlotsManyWrongFalsely : Prop := slotsManyRow.holds Try.pinned (OpenSpec.ofChange slotsManyWrong)

/- THE SECOND FORM. 'bulk': how many values and letters a reading holds, each counted each time it is reached (what is shared counts as often as it is met; a slice's spare places count too). A statement '..UptoSaid' is the law's where the arguments, and the package variables that the reading takes, are together of bulk at most 1048576: NARROWER than '..Said'. Prove '..Said' where nothing that the law and all that it calls make is longer than what came in: it says more and counts as full. Else prove '..UptoSaid'. A law counts once. -/
mutual
def uptoBulk {H : Type} : DataW H → Nat
  | .lit (.string bytes) => bytes.length + 1
  | .lit _ => 1
  | .nil => 1
  | .ptr d => uptoBulk d + 1
  | .slice elems spare => uptoBulkAll elems + uptoBulkAll spare + 1
  | .agg parts => uptoBulkAll parts + 1
  | .iface _ d => uptoBulk d + 1
  | .map entries => uptoBulkEntries entries + 1
  | .held _ => 1
def uptoBulkAll {H : Type} : List (DataW H) → Nat
  | [] => 0
  | d :: r => uptoBulk d + uptoBulkAll r
def uptoBulkEntries {H : Type} : List (Lit × DataW H) → Nat
  | [] => 0
  | x :: r => uptoBulkEntry x + uptoBulkEntries r
def uptoBulkEntry {H : Type} : Lit × DataW H → Nat
  | (.string bytes, d) => bytes.length + uptoBulk d + 1
  | (_, d) => uptoBulk d + 1
 end
def uptoSmall : (H : Type) → List (DataW H) → Bool := fun _ ds => decide (uptoBulkAll ds ≤ 1048576)
def OpenSpec.upto (s : _root_.Go.ChangeSpec) : _root_.Go.OpenSpec := { _root_.Go.OpenSpec.ofChange s with cond := some uptoSmall }

/-- 'hollowaylaw15.EvalWatched', WHERE WHAT IT READS IS OF BULK AT MOST 1048576: true; the input reads as it did. -/
def evalWatchedUptoRow : OpenClaim := { program := "ytblmoilneiffgaa", sum := "690f3904fe6a1aff8d151f203c3fcd7a91ce97843cb251ca61c490094b51257e", func := "holloway/hollowaylaw15.EvalWatched", spec := "evalWatched", plainKeys := false, apart := false, narrowed := true }
def EvalWatchedUptoSaid : Prop := evalWatchedUptoRow.holds Try.pinned (OpenSpec.upto evalWatchedSpec)

/-- 'hollowaylaw15.EvalEmpty', WHERE WHAT IT READS IS OF BULK AT MOST 1048576: true; the input reads as it did. -/
def evalEmptyUptoRow : OpenClaim := { program := "ytblmoilneiffgaa", sum := "690f3904fe6a1aff8d151f203c3fcd7a91ce97843cb251ca61c490094b51257e", func := "holloway/hollowaylaw15.EvalEmpty", spec := "evalEmpty", plainKeys := false, apart := false, narrowed := true }
def EvalEmptyUptoSaid : Prop := evalEmptyUptoRow.holds Try.pinned (OpenSpec.upto evalEmptySpec)

/-- 'hollowaylaw15.EvalGuards', WHERE WHAT IT READS IS OF BULK AT MOST 1048576: true; the input reads as it did. -/
def evalGuardsUptoRow : OpenClaim := { program := "ytblmoilneiffgaa", sum := "690f3904fe6a1aff8d151f203c3fcd7a91ce97843cb251ca61c490094b51257e", func := "holloway/hollowaylaw15.EvalGuards", spec := "evalGuards", plainKeys := false, apart := false, narrowed := true }
def EvalGuardsUptoSaid : Prop := evalGuardsUptoRow.holds Try.pinned (OpenSpec.upto evalGuardsSpec)

/-- 'hollowaylaw17.FoldTells', WHERE WHAT IT READS IS OF BULK AT MOST 1048576: true; the input reads as it did. -/
def foldTellsUptoRow : OpenClaim := { program := "ytblmoilneiffgaa", sum := "690f3904fe6a1aff8d151f203c3fcd7a91ce97843cb251ca61c490094b51257e", func := "holloway/hollowaylaw17.FoldTells", spec := "foldTells", plainKeys := false, apart := false, narrowed := true }
def FoldTellsUptoSaid : Prop := foldTellsUptoRow.holds Try.pinned (OpenSpec.upto foldTellsSpec)

/-- 'hollowaylaw17.FoldHolds', WHERE WHAT IT READS IS OF BULK AT MOST 1048576: true; the input reads as it did. -/
def foldHoldsUptoRow : OpenClaim := { program := "ytblmoilneiffgaa", sum := "690f3904fe6a1aff8d151f203c3fcd7a91ce97843cb251ca61c490094b51257e", func := "holloway/hollowaylaw17.FoldHolds", spec := "foldHolds", plainKeys := false, apart := false, narrowed := true }
def FoldHoldsUptoSaid : Prop := foldHoldsUptoRow.holds Try.pinned (OpenSpec.upto foldHoldsSpec)

/-- 'hollowaylaw17.FoldConsts', WHERE WHAT IT READS IS OF BULK AT MOST 1048576: true; the input reads as it did. -/
def foldConstsUptoRow : OpenClaim := { program := "ytblmoilneiffgaa", sum := "690f3904fe6a1aff8d151f203c3fcd7a91ce97843cb251ca61c490094b51257e", func := "holloway/hollowaylaw17.FoldConsts", spec := "foldConsts", plainKeys := false, apart := false, narrowed := true }
def FoldConstsUptoSaid : Prop := foldConstsUptoRow.holds Try.pinned (OpenSpec.upto foldConstsSpec)

/-- 'hollowaylaw18.ForwardTells', WHERE WHAT IT READS IS OF BULK AT MOST 1048576: true; the input reads as it did. -/
def forwardTellsUptoRow : OpenClaim := { program := "ytblmoilneiffgaa", sum := "690f3904fe6a1aff8d151f203c3fcd7a91ce97843cb251ca61c490094b51257e", func := "holloway/hollowaylaw18.ForwardTells", spec := "forwardTells", plainKeys := false, apart := false, narrowed := true }
def ForwardTellsUptoSaid : Prop := forwardTellsUptoRow.holds Try.pinned (OpenSpec.upto forwardTellsSpec)

/-- 'hollowaylaw18.ForwardHolds', WHERE WHAT IT READS IS OF BULK AT MOST 1048576: true; the input reads as it did. -/
def forwardHoldsUptoRow : OpenClaim := { program := "ytblmoilneiffgaa", sum := "690f3904fe6a1aff8d151f203c3fcd7a91ce97843cb251ca61c490094b51257e", func := "holloway/hollowaylaw18.ForwardHolds", spec := "forwardHolds", plainKeys := false, apart := false, narrowed := true }
def ForwardHoldsUptoSaid : Prop := forwardHoldsUptoRow.holds Try.pinned (OpenSpec.upto forwardHoldsSpec)

/-- 'hollowaylaw18.ForwardLoads', WHERE WHAT IT READS IS OF BULK AT MOST 1048576: true; the input reads as it did. -/
def forwardLoadsUptoRow : OpenClaim := { program := "ytblmoilneiffgaa", sum := "690f3904fe6a1aff8d151f203c3fcd7a91ce97843cb251ca61c490094b51257e", func := "holloway/hollowaylaw18.ForwardLoads", spec := "forwardLoads", plainKeys := false, apart := false, narrowed := true }
def ForwardLoadsUptoSaid : Prop := forwardLoadsUptoRow.holds Try.pinned (OpenSpec.upto forwardLoadsSpec)

/-- 'hollowaylaw19.PruneHolds', WHERE WHAT IT READS IS OF BULK AT MOST 1048576: true; the input reads as it did. -/
def pruneHoldsUptoRow : OpenClaim := { program := "ytblmoilneiffgaa", sum := "690f3904fe6a1aff8d151f203c3fcd7a91ce97843cb251ca61c490094b51257e", func := "holloway/hollowaylaw19.PruneHolds", spec := "pruneHolds", plainKeys := false, apart := false, narrowed := true }
def PruneHoldsUptoSaid : Prop := pruneHoldsUptoRow.holds Try.pinned (OpenSpec.upto pruneHoldsSpec)

/-- 'hollowaylaw19.PruneAll', WHERE WHAT IT READS IS OF BULK AT MOST 1048576: true; the input reads as it did. -/
def pruneAllUptoRow : OpenClaim := { program := "ytblmoilneiffgaa", sum := "690f3904fe6a1aff8d151f203c3fcd7a91ce97843cb251ca61c490094b51257e", func := "holloway/hollowaylaw19.PruneAll", spec := "pruneAll", plainKeys := false, apart := false, narrowed := true }
def PruneAllUptoSaid : Prop := pruneAllUptoRow.holds Try.pinned (OpenSpec.upto pruneAllSpec)

/-- 'hollowaylaw20.SlotsFew', WHERE WHAT IT READS IS OF BULK AT MOST 1048576: true; the input reads as it did. -/
def slotsFewUptoRow : OpenClaim := { program := "ytblmoilneiffgaa", sum := "690f3904fe6a1aff8d151f203c3fcd7a91ce97843cb251ca61c490094b51257e", func := "holloway/hollowaylaw20.SlotsFew", spec := "slotsFew", unfollowed := true, recurses := true, plainKeys := false, apart := false, narrowed := true }
def SlotsFewUptoSaid : Prop := slotsFewUptoRow.holds Try.pinned (OpenSpec.upto slotsFewSpec)

/-- 'hollowaylaw20.SlotsMany', WHERE WHAT IT READS IS OF BULK AT MOST 1048576: true; the input reads as it did. -/
def slotsManyUptoRow : OpenClaim := { program := "ytblmoilneiffgaa", sum := "690f3904fe6a1aff8d151f203c3fcd7a91ce97843cb251ca61c490094b51257e", func := "holloway/hollowaylaw20.SlotsMany", spec := "slotsMany", unfollowed := true, recurses := true, plainKeys := false, apart := false, narrowed := true }
def SlotsManyUptoSaid : Prop := slotsManyUptoRow.holds Try.pinned (OpenSpec.upto slotsManySpec)

end Rows
end Go.Proofs.Ytblmoilneiffgaa
