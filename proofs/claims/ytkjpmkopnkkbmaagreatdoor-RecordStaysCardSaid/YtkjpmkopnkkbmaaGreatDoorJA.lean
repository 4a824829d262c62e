/- The lifted texts of the package hollowaybook. -/
import Derived.Test.YtkjpmkopnkkbmaaGreatDoorJ4

/- Functions of Hollowaybook, read without their frames; that each is enough. Printed by a program of mine (wip/lift/gen.py). -/
set_option maxRecDepth 100000
namespace Go.Proofs.YtkjpmkopnkkbmaaGreatDoor
open Go.RowKit

-- (*holloway/hollowaybook.Book).State
-- holloway/hollowaybook.SameState
-- holloway/hollowaybook.LentState
-- holloway/hollowaybook.StaysState
-- (*holloway/hollowaybook.Book).Apart
-- holloway/hollowaybook.SameSeens
-- (*holloway/hollowaybook.Book).Seens
-- (*holloway/hollowaybook.Book).Ints
-- holloway/hollowaybook.SameInts
-- holloway/hollowaybook.LentInts
-- holloway/hollowaybook.StaysInts
-- (*holloway/hollowaybook.Book).stillTexts
-- (*holloway/hollowaybook.Book).stillInts
-- (*holloway/hollowaybook.Book).stillWords
-- (*holloway/hollowaybook.Book).stillSeens
-- (*holloway/hollowaybook.Book).stillCodes
-- (*holloway/hollowaybook.Book).stillExits
-- (*holloway/hollowaybook.Book).putExits
-- (*holloway/hollowaybook.Book).putTexts
-- (*holloway/hollowaybook.Book).putInts
-- (*holloway/hollowaybook.Book).putWords
-- (*holloway/hollowaybook.Book).putSeens
-- (*holloway/hollowaybook.Book).putCodes
-- (*holloway/hollowaybook.Book).growTexts
-- (*holloway/hollowaybook.Book).growInts
-- (*holloway/hollowaybook.Book).growWords
-- (*holloway/hollowaybook.Book).growSeens
-- (*holloway/hollowaybook.Book).growCodes
-- (*holloway/hollowaybook.Book).growExits
-- holloway/hollowaybook.markedTexts
-- holloway/hollowaybook.markedInts
-- holloway/hollowaybook.markedWords
-- holloway/hollowaybook.markedSeens
-- holloway/hollowaybook.markedCodes
-- holloway/hollowaybook.markedExits
-- holloway/hollowaybook.copySeens
-- holloway/hollowaybook.copyInts
-- holloway/hollowaybook.SameTexts
-- holloway/hollowaybook.SameWords
-- holloway/hollowaybook.SameCodes
-- holloway/hollowaybook.SameExits
-- holloway/hollowaybook.markExits
-- holloway/hollowaybook.markTexts
-- holloway/hollowaybook.markInts
-- holloway/hollowaybook.markWords
-- holloway/hollowaybook.markSeens
-- holloway/hollowaybook.markCodes
-- holloway/hollowaybook.name
end Go.Proofs.YtkjpmkopnkkbmaaGreatDoor
