/-
  No cell of these rows narrows 'for every input' (looked for: loops, veiled, ifaces, maps, wideKeys, modest, calm, conditions, laid).
  DERIVED. THE GIVEN ROWS OF THIS SEAT. 9 by the template 'for every input the law returns true; each argument reads behind the call as it read before'; 0 by the template 'total and deterministic' (their statements: YtijoigpggphajaaTotals.lean).
  GIVEN WITH THE SEED: the statements are not yours to turn. If you find one false, say at which input.
  Laid BY PROGRAM, IN A SANDBOX (cutbox-rows.mjs): the forced cells as the released guide's own fill.sh prints them over the translation c39c76ad4929d884… (all of the seat's roots in one cut). By AI agents, Wed Nov 11 2026. No macro, syntax, notation, axiom, sorry.
-/
import Derived.Test.YtijoigpggphajaaChecked
import GoSem.Claim
import GoSem.ClaimJoined
import GoSem.ClaimMapViews
import Derived.JoinedTies
import Derived.KernelRfl
namespace Go.Proofs.Ytijoigpggphajaa
/- THE CELL 'sum', in the pinned program and in every row, IS THE sha256 OF THE DUMP (.gsa) THAT YtijoigpggphajaaProg.lean LOADS. Nothing in Lean hashes anything: it is a label: what it is worth is what the hold of that sum in a sandbox is worth. -/
noncomputable def Try.pinned : Pinned := { name := "ytijoigpggphajaa", sum := "c39c76ad4929d8847a780028c29f35adffc691f08f5ba9a5b30e58f802e44925", checked := Try.checked }
namespace Rows
def none {H : Type} : Left H := { results := [], args := [] }

/-- 'hollowaylaw21.CacheSmall': WHATEVER THE INPUT: true; the input reads as it did. -/
def cacheSmallSpec : ChangeSpec := { name := "cacheSmall", fn := fun _ => fun
  | [d] => { results := [.lit (.bool true)], args := [d] }
  | _ => none }
def cacheSmallRow : OpenClaim := { program := "ytijoigpggphajaa", sum := "c39c76ad4929d8847a780028c29f35adffc691f08f5ba9a5b30e58f802e44925", func := "holloway/hollowaylaw21.CacheSmall", spec := "cacheSmall", unfollowed := true, recurses := true, apart := false }
def CacheSmallSaid : Prop := cacheSmallRow.holds Try.pinned (OpenSpec.ofChange cacheSmallSpec)

/-- ITS FALSE NEIGHBOUR: 'it returns false'. Refute it at one input. -/
def cacheSmallWrong : ChangeSpec := { name := "cacheSmall", fn := fun _ => fun
  | [d] => { results := [.lit (.bool false)], args := [d] }
  | _ => none }
def CacheSmallWrongFalsely : Prop := cacheSmallRow.holds Try.pinned (OpenSpec.ofChange cacheSmallWrong)

/-- 'hollowaylaw21.CacheUses': WHATEVER THE INPUT: true; the input reads as it did. -/
def cacheUsesSpec : ChangeSpec := { name := "cacheUses", fn := fun _ => fun
  | [d1, d2] => { results := [.lit (.bool true)], args := [d1, d2] }
  | _ => none }
def cacheUsesRow : OpenClaim := { program := "ytijoigpggphajaa", sum := "c39c76ad4929d8847a780028c29f35adffc691f08f5ba9a5b30e58f802e44925", func := "holloway/hollowaylaw21.CacheUses", spec := "cacheUses", unfollowed := true, recurses := true, apart := false }
def CacheUsesSaid : Prop := cacheUsesRow.holds Try.pinned (OpenSpec.ofChange cacheUsesSpec)

/-- ITS FALSE NEIGHBOUR: 'it returns false'. Refute it at one input. -/
def cacheUsesWrong : ChangeSpec := { name := "cacheUses", fn := fun _ => fun
  | [d1, d2] => { results := [.lit (.bool false)], args := [d1, d2] }
  | _ => none }
def CacheUsesWrongFalsely : Prop := cacheUsesRow.holds Try.pinned (OpenSpec.ofChange cacheUsesWrong)

/-- 'hollowaylaw21.CachePlays': WHATEVER THE INPUT: true; the input reads as it did. -/
def cachePlaysSpec : ChangeSpec := { name := "cachePlays", fn := fun _ => fun
  | [d1, d2] => { results := [.lit (.bool true)], args := [d1, d2] }
  | _ => none }
def cachePlaysRow : OpenClaim := { program := "ytijoigpggphajaa", sum := "c39c76ad4929d8847a780028c29f35adffc691f08f5ba9a5b30e58f802e44925", func := "holloway/hollowaylaw21.CachePlays", spec := "cachePlays", unfollowed := true, recurses := true, apart := false }
def CachePlaysSaid : Prop := cachePlaysRow.holds Try.pinned (OpenSpec.ofChange cachePlaysSpec)

/-- ITS FALSE NEIGHBOUR: 'it returns false'. Refute it at one input. -/
def cachePlaysWrong : ChangeSpec := { name := "cachePlays", fn := fun _ => fun
  | [d1, d2] => { results := [.lit (.bool false)], args := [d1, d2] }
  | _ => none }
def CachePlaysWrongFalsely : Prop := cachePlaysRow.holds Try.pinned (OpenSpec.ofChange cachePlaysWrong)

/-- 'hollowaylaw6.OpNames': WHATEVER THE INPUT: true; the input reads as it did. -/
def opNamesSpec : ChangeSpec := { name := "opNames", fn := fun _ => fun
  | [d1, d2] => { results := [.lit (.bool true)], args := [d1, d2] }
  | _ => none }
def opNamesRow : OpenClaim := { program := "ytijoigpggphajaa", sum := "c39c76ad4929d8847a780028c29f35adffc691f08f5ba9a5b30e58f802e44925", func := "holloway/hollowaylaw6.OpNames", spec := "opNames", apart := false }
def OpNamesSaid : Prop := opNamesRow.holds Try.pinned (OpenSpec.ofChange opNamesSpec)

/-- ITS FALSE NEIGHBOUR: 'it returns false'. Refute it at one input. -/
def opNamesWrong : ChangeSpec := { name := "opNames", fn := fun _ => fun
  | [d1, d2] => { results := [.lit (.bool false)], args := [d1, d2] }
  | _ => none }
def OpNamesWrongFalsely : Prop := opNamesRow.holds Try.pinned (OpenSpec.ofChange opNamesWrong)

/-- 'hollowaylaw6.OpTells': WHATEVER THE INPUT: true; the input reads as it did. -/
def opTellsSpec : ChangeSpec := { name := "opTells", fn := fun _ => fun
  | [d1, d2] => { results := [.lit (.bool true)], args := [d1, d2] }
  | _ => none }
def opTellsRow : OpenClaim := { program := "ytijoigpggphajaa", sum := "c39c76ad4929d8847a780028c29f35adffc691f08f5ba9a5b30e58f802e44925", func := "holloway/hollowaylaw6.OpTells", spec := "opTells", apart := false }
def OpTellsSaid : Prop := opTellsRow.holds Try.pinned (OpenSpec.ofChange opTellsSpec)

/-- ITS FALSE NEIGHBOUR: 'it returns false'. Refute it at one input. -/
def opTellsWrong : ChangeSpec := { name := "opTells", fn := fun _ => fun
  | [d1, d2] => { results := [.lit (.bool false)], args := [d1, d2] }
  | _ => none }
def OpTellsWrongFalsely : Prop := opTellsRow.holds Try.pinned (OpenSpec.ofChange opTellsWrong)

/-- 'hollowaylaw6.OpBalance': WHATEVER THE INPUT: true; the input reads as it did. -/
def opBalanceSpec : ChangeSpec := { name := "opBalance", fn := fun _ => fun
  | [d1, d2] => { results := [.lit (.bool true)], args := [d1, d2] }
  | _ => none }
def opBalanceRow : OpenClaim := { program := "ytijoigpggphajaa", sum := "c39c76ad4929d8847a780028c29f35adffc691f08f5ba9a5b30e58f802e44925", func := "holloway/hollowaylaw6.OpBalance", spec := "opBalance", apart := false }
def OpBalanceSaid : Prop := opBalanceRow.holds Try.pinned (OpenSpec.ofChange opBalanceSpec)

/-- ITS FALSE NEIGHBOUR: 'it returns false'. Refute it at one input. -/
def opBalanceWrong : ChangeSpec := { name := "opBalance", fn := fun _ => fun
  | [d1, d2] => { results := [.lit (.bool false)], args := [d1, d2] }
  | _ => none }
def OpBalanceWrongFalsely : Prop := opBalanceRow.holds Try.pinned (OpenSpec.ofChange opBalanceWrong)

/-- 'hollowaylaw7.WordsCase': WHATEVER THE INPUT: true; the input reads as it did. -/
def wordsCaseSpec : ChangeSpec := { name := "wordsCase", fn := fun _ => fun
  | [d1, d2] => { results := [.lit (.bool true)], args := [d1, d2] }
  | _ => none }
def wordsCaseRow : OpenClaim := { program := "ytijoigpggphajaa", sum := "c39c76ad4929d8847a780028c29f35adffc691f08f5ba9a5b30e58f802e44925", func := "holloway/hollowaylaw7.WordsCase", spec := "wordsCase", apart := false }
def WordsCaseSaid : Prop := wordsCaseRow.holds Try.pinned (OpenSpec.ofChange wordsCaseSpec)

/-- ITS FALSE NEIGHBOUR: 'it returns false'. Refute it at one input. -/
def wordsCaseWrong : ChangeSpec := { name := "wordsCase", fn := fun _ => fun
  | [d1, d2] => { results := [.lit (.bool false)], args := [d1, d2] }
  | _ => none }
def WordsCaseWrongFalsely : Prop := wordsCaseRow.holds Try.pinned (OpenSpec.ofChange wordsCaseWrong)

/-- 'hollowaylaw7.WordsMany': WHATEVER THE INPUT: true; the input reads as it did. -/
def wordsManySpec : ChangeSpec := { name := "wordsMany", fn := fun _ => fun
  | [d1, d2] => { results := [.lit (.bool true)], args := [d1, d2] }
  | _ => none }
def wordsManyRow : OpenClaim := { program := "ytijoigpggphajaa", sum := "c39c76ad4929d8847a780028c29f35adffc691f08f5ba9a5b30e58f802e44925", func := "holloway/hollowaylaw7.WordsMany", spec := "wordsMany", apart := false }
def WordsManySaid : Prop := wordsManyRow.holds Try.pinned (OpenSpec.ofChange wordsManySpec)

/-- ITS FALSE NEIGHBOUR: 'it returns false'. Refute it at one input. -/
def wordsManyWrong : ChangeSpec := { name := "wordsMany", fn := fun _ => fun
  | [d1, d2] => { results := [.lit (.bool false)], args := [d1, d2] }
  | _ => none }
def WordsManyWrongFalsely : Prop := wordsManyRow.holds Try.pinned (OpenSpec.ofChange wordsManyWrong)

/-- 'hollowaylaw7.WordsPlay': WHATEVER THE INPUT: true; the input reads as it did. -/
def wordsPlaySpec : ChangeSpec := { name := "wordsPlay", fn := fun _ => fun
  | [d1, d2, d3] => { results := [.lit (.bool true)], args := [d1, d2, d3] }
  | _ => none }
def wordsPlayRow : OpenClaim := { program := "ytijoigpggphajaa", sum := "c39c76ad4929d8847a780028c29f35adffc691f08f5ba9a5b30e58f802e44925", func := "holloway/hollowaylaw7.WordsPlay", spec := "wordsPlay", apart := false }
def WordsPlaySaid : Prop := wordsPlayRow.holds Try.pinned (OpenSpec.ofChange wordsPlaySpec)

/-- ITS FALSE NEIGHBOUR: 'it returns false'. Refute it at one input. -/
def wordsPlayWrong : ChangeSpec := { name := "wordsPlay", fn := fun _ => fun
  | [d1, d2, d3] => { results := [.lit (.bool false)], args := [d1, d2, d3] }
  | _ => none }
def WordsPlayWrongFalsely : Prop := wordsPlayRow.holds Try.pinned (OpenSpec.ofChange wordsPlayWrong)

/- THE SECOND FORM. 'bulk': how many values and letters a reading holds, each counted each time it is reached (what is shared counts as often as it is met; a slice's spare places count too). A statement '..UptoSaid' is the law's where the arguments, and the package variables that the reading takes, are together of bulk at most 1048576: NARROWER than '..Said'. Prove '..Said' where nothing that the law and all that it calls make is longer than what came in: it says more and counts as full. Else prove '..UptoSaid'. A law counts once. -/
mutual
def uptoBulk {H : Type} : DataW H → Nat
  | .lit (.string bytes) => bytes.length + 1
  | .lit _ => 1
  | .nil => 1
  | .ptr d => uptoBulk d + 1
  | .slice elems spare => uptoBulkAll elems + uptoBulkAll spare + 1
  | .agg parts => uptoBulkAll parts + 1
  | .iface _ d => uptoBulk d + 1
  | .map entries => uptoBulkEntries entries + 1
  | .held _ => 1
def uptoBulkAll {H : Type} : List (DataW H) → Nat
  | [] => 0
  | d :: r => uptoBulk d + uptoBulkAll r
def uptoBulkEntries {H : Type} : List (Lit × DataW H) → Nat
  | [] => 0
  | x :: r => uptoBulkEntry x + uptoBulkEntries r
def uptoBulkEntry {H : Type} : Lit × DataW H → Nat
  | (.string bytes, d) => bytes.length + uptoBulk d + 1
  | (_, d) => uptoBulk d + 1
 end
def uptoSmall : (H : Type) → List (DataW H) → Bool := fun _ ds => decide (uptoBulkAll ds ≤ 1048576)
def OpenSpec.upto (s : _root_.Go.ChangeSpec) : _root_.Go.OpenSpec := { _root_.Go.OpenSpec.ofChange s with cond := some uptoSmall }

/-- 'hollowaylaw21.CacheSmall', WHERE WHAT IT READS IS OF BULK AT MOST 1048576: true; the input reads as it did. -/
def cacheSmallUptoRow : OpenClaim := { program := "ytijoigpggphajaa", sum := "c39c76ad4929d8847a780028c29f35adffc691f08f5ba9a5b30e58f802e44925", func := "holloway/hollowaylaw21.CacheSmall", spec := "cacheSmall", unfollowed := true, recurses := true, apart := false, narrowed := true }
def CacheSmallUptoSaid : Prop := cacheSmallUptoRow.holds Try.pinned (OpenSpec.upto cacheSmallSpec)

/-- 'hollowaylaw21.CacheUses', WHERE WHAT IT READS IS OF BULK AT MOST 1048576: true; the input reads as it did. -/
def cacheUsesUptoRow : OpenClaim := { program := "ytijoigpggphajaa", sum := "c39c76ad4929d8847a780028c29f35adffc691f08f5ba9a5b30e58f802e44925", func := "holloway/hollowaylaw21.CacheUses", spec := "cacheUses", unfollowed := true, recurses := true, apart := false, narrowed := true }
def CacheUsesUptoSaid : Prop := cacheUsesUptoRow.holds Try.pinned (OpenSpec.upto cacheUsesSpec)

/-- 'hollowaylaw21.CachePlays', WHERE WHAT IT READS IS OF BULK AT MOST 1048576: true; the input reads as it did. -/
def cachePlaysUptoRow : OpenClaim := { program := "ytijoigpggphajaa", sum := "c39c76ad4929d8847a780028c29f35adffc691f08f5ba9a5b30e58f802e44925", func := "holloway/hollowaylaw21.CachePlays", spec := "cachePlays", unfollowed := true, recurses := true, apart := false, narrowed := true }
def CachePlaysUptoSaid : Prop := cachePlaysUptoRow.holds Try.pinned (OpenSpec.upto cachePlaysSpec)

/-- 'hollowaylaw6.OpNames', WHERE WHAT IT READS IS OF BULK AT MOST 1048576: true; the input reads as it did. -/
def opNamesUptoRow : OpenClaim := { program := "ytijoigpggphajaa", sum := "c39c76ad4929d8847a780028c29f35adffc691f08f5ba9a5b30e58f802e44925", func := "holloway/hollowaylaw6.OpNames", spec := "opNames", apart := false, narrowed := true }
def OpNamesUptoSaid : Prop := opNamesUptoRow.holds Try.pinned (OpenSpec.upto opNamesSpec)

/-- 'hollowaylaw6.OpTells', WHERE WHAT IT READS IS OF BULK AT MOST 1048576: true; the input reads as it did. -/
def opTellsUptoRow : OpenClaim := { program := "ytijoigpggphajaa", sum := "c39c76ad4929d8847a780028c29f35adffc691f08f5ba9a5b30e58f802e44925", func := "holloway/hollowaylaw6.OpTells", spec := "opTells", apart := false, narrowed := true }
def OpTellsUptoSaid : Prop := opTellsUptoRow.holds Try.pinned (OpenSpec.upto opTellsSpec)

/-- 'hollowaylaw6.OpBalance', WHERE WHAT IT READS IS OF BULK AT MOST 1048576: true; the input reads as it did. -/
def opBalanceUptoRow : OpenClaim := { program := "ytijoigpggphajaa", sum := "c39c76ad4929d8847a780028c29f35adffc691f08f5ba9a5b30e58f802e44925", func := "holloway/hollowaylaw6.OpBalance", spec := "opBalance", apart := false, narrowed := true }
def OpBalanceUptoSaid : Prop := opBalanceUptoRow.holds Try.pinned (OpenSpec.upto opBalanceSpec)

/-- 'hollowaylaw7.WordsCase', WHERE WHAT IT READS IS OF BULK AT MOST 1048576: true; the input reads as it did. -/
def wordsCaseUptoRow : OpenClaim := { program := "ytijoigpggphajaa", sum := "c39c76ad4929d8847a780028c29f35adffc691f08f5ba9a5b30e58f802e44925", func := "holloway/hollowaylaw7.WordsCase", spec := "wordsCase", apart := false, narrowed := true }
def WordsCaseUptoSaid : Prop := wordsCaseUptoRow.holds Try.pinned (OpenSpec.upto wordsCaseSpec)

/-- 'hollowaylaw7.WordsMany', WHERE WHAT IT READS IS OF BULK AT MOST 1048576: true; the input reads as it did. -/
def wordsManyUptoRow : OpenClaim := { program := "ytijoigpggphajaa", sum := "c39c76ad4929d8847a780028c29f35adffc691f08f5ba9a5b30e58f802e44925", func := "holloway/hollowaylaw7.WordsMany", spec := "wordsMany", apart := false, narrowed := true }
def WordsManyUptoSaid : Prop := wordsManyUptoRow.holds Try.pinned (OpenSpec.upto wordsManySpec)

/-- 'hollowaylaw7.WordsPlay', WHERE WHAT IT READS IS OF BULK AT MOST 1048576: true; the input reads as it did. -/
def wordsPlayUptoRow : OpenClaim := { program := "ytijoigpggphajaa", sum := "c39c76ad4929d8847a780028c29f35adffc691f08f5ba9a5b30e58f802e44925", func := "holloway/hollowaylaw7.WordsPlay", spec := "wordsPlay", apart := false, narrowed := true }
def WordsPlayUptoSaid : Prop := wordsPlayUptoRow.holds Try.pinned (OpenSpec.upto wordsPlaySpec)

end Rows
end Go.Proofs.Ytijoigpggphajaa
