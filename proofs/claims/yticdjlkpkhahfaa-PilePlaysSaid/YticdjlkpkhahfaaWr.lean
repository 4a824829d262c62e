/- Numbers that fit are not wrapped. -/
import Derived.Test.YticdjlkpkhahfaaHp
namespace Go.Proofs.Yticdjlkpkhahfaa
open Go.RowKit

theorem wr_of {x : Int} (h : -9223372036854775808 ≤ x) (h' : x ≤ 9223372036854775807) : wr x = x := IntWalk.i64_in _ (by omega)
end Go.Proofs.Yticdjlkpkhahfaa
