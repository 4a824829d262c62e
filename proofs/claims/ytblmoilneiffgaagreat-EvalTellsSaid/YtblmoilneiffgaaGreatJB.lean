/- The lifted texts of the packages ir, fold, forward, prune. -/
import Derived.Test.YtblmoilneiffgaaGreatJ4

/- Functions of Ir, read without their frames; that each is enough. Printed by a program of mine (wip/lift/gen.py). -/
set_option maxRecDepth 100000
namespace Go.Proofs.YtblmoilneiffgaaGreat
open Go.RowKit

-- holloway/ir.Right
-- holloway/ir.head
-- holloway/ir.cells
-- holloway/ir.named
-- holloway/ir.out
-- holloway/ir.single
-- holloway/ir.places
-- holloway/ir.Uses
-- holloway/ir.Outs
-- holloway/ir.Gives
-- holloway/ir.between
-- holloway/ir.two
-- holloway/ir.one
end Go.Proofs.YtblmoilneiffgaaGreat

/- Functions of Fold, read without their frames; that each is enough. Printed by a program of mine (wip/lift/gen.py). -/
set_option maxRecDepth 100000
namespace Go.Proofs.YtblmoilneiffgaaGreat
open Go.RowKit

-- (holloway/fold.Map).Ins
-- (holloway/fold.Map).Outs
-- (holloway/fold.Map).Of
-- (holloway/fold.Map).All
end Go.Proofs.YtblmoilneiffgaaGreat
