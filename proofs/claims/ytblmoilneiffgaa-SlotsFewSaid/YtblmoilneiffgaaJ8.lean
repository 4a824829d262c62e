/- What the laws of traces ask; how arguments are opened. -/
import Derived.Test.YtblmoilneiffgaaJ5
import Derived.Test.YtblmoilneiffgaaJ7
import Derived.Test.YtblmoilneiffgaaJ6
import Derived.Test.YtblmoilneiffgaaJA
import Derived.Test.YtblmoilneiffgaaJ4
import Derived.Laws.StructEq
import Derived.Test.YtblmoilneiffgaaJ3
import Derived.Test.YtblmoilneiffgaaJC

/- What the statements about traces ask: small machines, small traces, machines alike, a machine at its beginning, how a run ended. -/
set_option maxRecDepth 100000
namespace Go.Proofs.Ytblmoilneiffgaa
open Go.RowKit

/-! ### A machine at its beginning -/
end Go.Proofs.Ytblmoilneiffgaa

/- The law's first call (chapter 15), EvalGuards. -/
set_option maxRecDepth 100000
namespace Go.Proofs.Ytblmoilneiffgaa
open Go.RowKit

/-- Literals. -/
theorem litIns {w w' : World} {b : Nat} (xs : List In5) (cs : List Value) (hcs : cs = fl insE xs) (hb : b = w.heap.size) (hw : w' = World.alloc w (.cells cs.toArray T_api_Ins)) (hl : xs.length ≤ 100) : Ow insE w' ⟨some ⟨b, 0, none⟩, xs.length, xs.length⟩ xs ∧ Chg No w w' := by
  rw [hw, hb]
  exact ⟨Ow.lit (E := insE) w xs cs hcs (by unfold maxLen; omega), Chg.alloc _ _ _⟩
theorem litOus {w w' : World} {b : Nat} (xs : List OuC) (cs : List Value) (hcs : cs = fl ouE xs) (hb : b = w.heap.size) (hw : w' = World.alloc w (.cells cs.toArray T_api_Out)) (hl : xs.length ≤ 100) : Ow ouE w' ⟨some ⟨b, 0, none⟩, xs.length, xs.length⟩ xs ∧ Chg No w w' := by
  rw [hw, hb]
  exact ⟨Ow.lit (E := ouE) w xs cs hcs (by unfold maxLen; omega), Chg.alloc _ _ _⟩
def Any : Nat → Prop := fun _ => True
theorem stis {w : World} {S : StC} {s : StV} (h : StNums S s) (h1 : Rd intE w S.stack s.stack) (h2 : Rd intE w S.back s.back) (h3 : Rd intE w S.mem s.mem) : StIs Any w S s := ⟨h, h1, h2, h3, fun _ _ => trivial, fun _ _ => trivial, fun _ _ => trivial⟩
def alT : TrG := ⟨5, 1, 0, 0, 0, [⟨2, 0, 0, 0, 0⟩, ⟨4, 11, 0, 0, 0⟩], [⟨7, 2, [1], []⟩], 0, []⟩
end Go.Proofs.Ytblmoilneiffgaa
