/- The book of lists over any kind; lists that are lent. -/
import Derived.Test.YtkjpmkopnkkbmaaGreatDoorJ2

/- The book of lists (hollowaybook), one kind of lists at a time and over any kind: marks, still, marked. -/
set_option maxRecDepth 100000
namespace Go.Proofs.YtkjpmkopnkkbmaaGreatDoor
open Go.RowKit

variable {α : Type} {P : Program}
end Go.Proofs.YtkjpmkopnkkbmaaGreatDoor
