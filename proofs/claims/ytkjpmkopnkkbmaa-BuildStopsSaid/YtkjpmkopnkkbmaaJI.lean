/- Faults, and their codes: the package fault, errors.As. -/
import Derived.Test.YtkjpmkopnkkbmaaJ5

/- No errors in this program: what is asked of their variable elsewhere is nothing here. -/
namespace Go.Proofs.Ytkjpmkopnkkbmaa
def Gl (_ : World) : Prop := True
theorem Gl.chg {S : Nat → Prop} {w w' : World} (_ : Gl w) (_ : Chg S w w') (_ : ¬ S 0) : Gl w' := trivial
end Go.Proofs.Ytkjpmkopnkkbmaa

/- No errors in this program. -/
namespace Go.Proofs.Ytkjpmkopnkkbmaa
end Go.Proofs.Ytkjpmkopnkkbmaa

/- No errors in this program. -/
namespace Go.Proofs.Ytkjpmkopnkkbmaa
end Go.Proofs.Ytkjpmkopnkkbmaa
