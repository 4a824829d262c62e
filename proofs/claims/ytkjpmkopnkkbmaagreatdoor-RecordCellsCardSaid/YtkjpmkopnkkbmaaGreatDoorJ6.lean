/- The book of lists over any kind; lists that are lent. -/
import Derived.Test.YtkjpmkopnkkbmaaGreatDoorJ2
import Derived.Test.YtkjpmkopnkkbmaaGreatDoorJ4
import Derived.Test.YtkjpmkopnkkbmaaGreatDoorJA

/- The book of lists (hollowaybook), one kind of lists at a time and over any kind: marks, still, marked. -/
set_option maxRecDepth 100000
namespace Go.Proofs.YtkjpmkopnkkbmaaGreatDoor
open Go.RowKit

variable {α : Type} {P : Program}
/-- What is asked of a kind's SameX and markX. -/
def SameOk (P : Program) (E : Enc α) (fS : FuncId) : Prop := ∀ (s t : Sl) (xs : List α) (w : World), Rd E w s xs → Rd E w t xs → Calls P fS #[s.val, t.val] w fun e w' => e = .returned (.bool true) ∧ Chg No w w'
end Go.Proofs.YtkjpmkopnkkbmaaGreatDoor

/- hollowaybook.SameInts. -/
set_option maxRecDepth 100000
namespace Go.Proofs.YtkjpmkopnkkbmaaGreatDoor
open Go.RowKit

end Go.Proofs.YtkjpmkopnkkbmaaGreatDoor
